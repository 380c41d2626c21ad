/- SxR19: Adds returns true. -/
import Derived.Test.YtmgaphghjhbhhaaSxR18
import Derived.Test.YtmgaphghjhbhhaaSxM3
namespace Go.Sx
open Go.Proofs
set_option linter.unusedVariables false
set_option linter.unusedSimpArgs false

theorem w9 (svs : List SV) (h : IsL Try.prog 3 [23, 3, 3] svs) : bodyK (E0 g8 noLoop) (callN (E0 g8 noLoop) 1) 9 Try.f9 svs [] (fun x _ => isTrue x) := by
  obtain ⟨a, b, c, rfl, h1, h2, h3⟩ := isL3 h
  obtain ⟨r, rfl, hr⟩ := is_ras h1
  obtain ⟨m, rfl, hm⟩ := is_int und3 h2
  obtain ⟨n, rfl, hn⟩ := is_int und3 h3
  have hm := inK_i64 hm
  have hn := inK_i64 hn
  have a1 := i64_spf m 0 2305843009213693952 (by omega) (by omega)
  have a2 := i64_spf n 0 2305843009213693952 (by omega) (by omega)
  have k1 : spanOK m 0 2305843009213693952 := ⟨hm, by omega⟩
  have k2 : spanOK n 0 2305843009213693952 := ⟨hn, by omega⟩
  rw [t9]
  have hs := near_valid r
  generalize r.nearR = s at *
  generalize spf m 0 2305843009213693952 = A at *
  generalize spf n 0 2305843009213693952 = B at *
  obtain ⟨e1, e2⟩ := advR_add hs a1.1 a2.1
  have e3 := wrap_wrap (s.advN A) ((s.advR A).advN B)
  rw [e2] at e3
  have hx := advR_valid hs A
  generalize hX : s.advR A = x at *
  obtain ⟨e4, e5⟩ := advR_one hx
  have e6 := tick_moves hx
  have e7 := tickN_le x
  have e8 : IntKind.i64.wrap (A + B) = A + B := IntWalk.i64_in _ (by omega)
  have e9 : IntKind.i64.wrap x.tickN = x.tickN := IntWalk.i64_in _ (by omega)
  have kA : i64 A := by unfold i64; omega
  have kB : i64 B := by unfold i64; omega
  have kC : i64 (A + B) := by unfold i64; omega
  have kD : i64 1 := by unfold i64; omega
  refine ⟨⟨hr⟩, ⟨k1⟩, ⟨k2⟩, ⟨kA⟩, ⟨kB⟩, ⟨by rw [e8]; exact kC⟩, ?_⟩
  have w1 : IntKind.i64.wrap (0 + 1) = 1 := by rfl
  have w2 : IntKind.i64.wrap (1 + 1) = 2 := by rfl
  have w3 : IntKind.i64.wrap (2 + 1) = 3 := by rfl
  have t : x.dotR.dotR.dotR = x.tickR := rfl
  simp only [e8, e1, e3, hx, e4, e5, e9, w1, w2, w3, t, beq_self_eq_true, Bool.and_true, Bool.true_and, bne_self_eq_false, Bool.not_true, Bool.or_false, Bool.false_or, e6]
  refine ⟨trivial, ⟨kD⟩, trivial, trivial, trivial, trivial, ?_⟩
  unfold Ras.tickN
  cases x.dotC <;> cases x.dotR.dotC <;> cases x.dotR.dotR.dotC <;> rfl
end Go.Sx
