/- SxR27: Lines returns true. -/
import Derived.Test.YtmgaphghjhbhhaaSxR26
import Derived.Test.YtmgaphghjhbhhaaSxM5
import Derived.Test.YtmgaphghjhbhhaaSxR20
namespace Go.Sx
open Go.Proofs
set_option linter.unusedVariables false
set_option linter.unusedSimpArgs false

theorem lines_core {x A B C : Ras} (h : x.valid = true) (hn : x.nmi = true) (hb : x.vbl = false) (hA : A = x.advR x.nextN) (hB : B = A.advR A.nextN) (hC : C = B.advR B.nextN) :
    A.up = true ∧ A.vbl = true ∧ (A.nextN = 2273 ∨ A.nextN = 2274) ∧ (A.nextN + B.nextN = 29780 ∨ A.nextN + B.nextN = 29781) ∧ C.up = true := by
  rw [adv_next h hn] at hA
  have vA : A.valid = true := by rw [hA]; exact its_valid _ h
  have nA : A.nmi = true := by rw [hA, (its_draw _ _).2]; exact hn
  have bA : A.vbl = true := by rw [hA, flips h, hb]; rfl
  have pA := rises h hb
  rw [← hA] at pA
  have bd := nextJ_bounds h
  rw [adv_next vA nA] at hB
  have vB : B.valid = true := by rw [hB]; exact its_valid _ vA
  have nB : B.nmi = true := by rw [hB, (its_draw _ _).2]; exact nA
  rw [adv_next vB nB] at hC
  have vC : C.valid = true := by rw [hC]; exact its_valid _ vB
  have nC : C.nmi = true := by rw [hC, (its_draw _ _).2]; exact nB
  obtain ⟨s1, s2, s3⟩ := blank_shape vA bA (by omega) (by omega)
  rw [← hB] at s2 s3
  rw [← hC] at s3
  rw [nextN_J vA nA, nextN_J vB nB]
  refine ⟨by unfold Ras.up; rw [vA, bA, nA]; rfl, bA, by omega, by omega, by unfold Ras.up; rw [vC, s3, nC]; rfl⟩

theorem nextN_i64 (x : Ras) : i64 x.nextN := by
  unfold Ras.nextN i64 never
  by_cases h : x.valid = true
  · have := nextD_range h
    rw [if_pos h]; split <;> omega
  · rw [if_neg h]; omega

theorem gA_ok : GamOK (E0 gA noLoop) :=
  gam_ok rfl ⟨con30.of, con31.of, con34.of, con35.of, con15.of, con16.of, con21.of, con18.of, con22.of, con17.of, con29.of, con19.of, con20.of, con36.of, con25.of, con26.of, con23.of, con24.of, con27.of, con28.of, trivial⟩

theorem lines_end {A B C : Ras} (h : A.up = true ∧ A.vbl = true ∧ (A.nextN = 2273 ∨ A.nextN = 2274) ∧ (A.nextN + B.nextN = 29780 ∨ A.nextN + B.nextN = 29781) ∧ C.up = true) :
    br (!A.up || !A.vbl) (false = true) (True ∧ Chk (i64 A.nextN) ∧ True ∧ Chk (i64 B.nextN) ∧
      br ((A.nextN == 2273 || A.nextN == 2274) && (IntKind.i64.wrap (A.nextN + B.nextN) == 29780 || IntKind.i64.wrap (A.nextN + B.nextN) == 29781) && true)
        (True ∧ ((A.nextN == 2273 || A.nextN == 2274) && (IntKind.i64.wrap (A.nextN + B.nextN) == 29780 || IntKind.i64.wrap (A.nextN + B.nextN) == 29781) && C.up) = true)
        (((A.nextN == 2273 || A.nextN == 2274) && (IntKind.i64.wrap (A.nextN + B.nextN) == 29780 || IntKind.i64.wrap (A.nextN + B.nextN) == 29781) && false) = true)) := by
  obtain ⟨a, b, c, d, e⟩ := h
  have w : IntKind.i64.wrap (A.nextN + B.nextN) = A.nextN + B.nextN := IntWalk.i64_in _ (by omega)
  have c' : (A.nextN == 2273 || A.nextN == 2274) = true := by simpa using c
  have d' : (A.nextN + B.nextN == 29780 || A.nextN + B.nextN == 29781) = true := by simpa using d
  rw [w, c', d', a, b, e]
  exact ⟨trivial, ⟨nextN_i64 A⟩, trivial, ⟨nextN_i64 B⟩, trivial, rfl⟩

theorem w10 (svs : List SV) (h : IsL Try.prog 3 [23] svs) : bodyK (E0 gA noLoop) (callN (E0 gA noLoop) 1) 10 Try.f10 svs [] (fun x _ => isTrue x) := by
  obtain ⟨a, rfl, h1⟩ := isL1 h
  obtain ⟨r, rfl, hr⟩ := is_ras h1
  rw [t10]
  have hq := valid_with (near_valid r) r.nearR.odd true r.nearR.draw
  have hn : (Ras.mk r.nearR.line r.nearR.dot r.nearR.odd r.nearR.vbl true r.nearR.draw r.nearR.hold).nmi = true := rfl
  generalize Ras.mk r.nearR.line r.nearR.dot r.nearR.odd r.nearR.vbl true r.nearR.draw r.nearR.hold = q at *
  refine ⟨⟨hr⟩, trivial, br_in (fun u => ?_) (fun u => ?_)⟩
  · have hv : q.vbl = true := by
      unfold Ras.up at u; rw [hq, hn] at u; simpa using u
    have h2 : (q.advR q.nextN).valid = true := advR_valid hq _
    have h3 : (q.advR q.nextN).nmi = true := by rw [adv_next hq hn, (its_draw _ _).2]; exact hn
    have h4 : (q.advR q.nextN).vbl = false := by rw [adv_next hq hn, flips hq, hv]; rfl
    exact ⟨trivial, ⟨nextN_i64 q⟩, trivial, ⟨nextN_i64 _⟩, trivial, lines_end (lines_core h2 h3 h4 rfl rfl rfl)⟩
  · have hv : q.vbl = false := by
      unfold Ras.up at u; rw [hq, hn] at u; simpa using u
    exact ⟨trivial, ⟨nextN_i64 q⟩, trivial, lines_end (lines_core hq hn hv rfl rfl rfl)⟩
end Go.Sx
