/- SxR22: raster.Next: contract. -/
import Derived.Test.YtmgaphghjhbhhaaSxR21
namespace Go.Sx
open Go.Proofs
set_option linter.unusedVariables false
set_option linter.unusedSimpArgs false

theorem nextD_range {r : Ras} (h : r.valid = true) : 1 ≤ r.nextD ∧ r.nextD ≤ 200000 := by
  have hp := pl_range h
  have hl := left_range h
  rw [valid_iff] at h
  unfold Ras.nextD
  split
  · rename_i hv; have := h.2.2.2.2.1 hv; omega
  · split <;> omega

theorem p30 (r : Ras) : bodyK (E0 g9 noLoop) (callN (E0 g9 noLoop) 3) 30 Try.f30 [r.sv] [] (fun x _ => onB (x.cl 0) (x = .i .i64 r.nextN)) := by
  rw [t30]
  refine ⟨trivial, br_in (fun a => ?_) (fun a => br_in (fun b => ?_) (fun b => ?_))⟩ <;> simp at a
  · unfold Ras.nextN; rw [a]; rfl
  · simp at b; unfold Ras.nextN; rw [a, b]; rfl
  · simp at b
    have hn : r.nextN = (r.nextD + 2) / 3 := by unfold Ras.nextN; rw [if_pos a, if_pos b]
    have hp := pl_range a
    obtain ⟨l1, l2⟩ := left_len a
    have hl := left_range a
    have hlen : 89341 ≤ r.len ∧ r.len ≤ 89342 := by unfold Ras.len; split <;> omega
    have hd := nextD_range a
    have fin : ∀ e : Int, e = r.nextD → SV.i IntKind.i64 (IntKind.i64.wrap ((IntKind.i64.wrap (e + 2)).tdiv 3)) = SV.i IntKind.i64 r.nextN := by
      rintro e rfl
      rw [IntWalk.i64_in (r.nextD + 2) (by omega), IntWalk.i64_quo (r.nextD + 2) 3 (by omega), hn]
    refine br_in (fun c => ⟨⟨a⟩, ?_⟩) (fun c => ⟨⟨a⟩, br_in (fun d => ⟨trivial, br_in (fun e => ⟨⟨?_⟩, ?_⟩) (fun e => ⟨⟨?_⟩, ?_⟩)⟩) (fun d => ⟨⟨a⟩, ?_⟩)⟩)
    · rw [IntWalk.i64_in (89002 - r.pl) (by omega)]
      exact fin _ (by unfold Ras.nextD; rw [if_pos c])
    · rw [valid_iff]; simp [c]
    · rw [IntWalk.i64_in (r.len - r.pl) (by omega)] at e
      simp at e
      have z : (Ras.mk 0 0 (!r.odd) r.vbl r.nmi r.draw false).pl = 0 := rfl
      rw [z, IntWalk.i64_in (89342 - r.pl) (by omega), IntWalk.i64_in (89342 - r.pl + 82181) (by omega), IntWalk.i64_in (89342 - r.pl + 82181 + 1) (by omega), IntWalk.i64_in (89342 - r.pl + 82181 + 1 - 0) (by omega)]
      refine fin _ ?_
      unfold Ras.nextD
      rw [if_neg (by rw [c]; simp), if_pos (by simpa using d), l1 (by omega)]; omega
    · rw [valid_iff]; simp [c]
    · rw [IntWalk.i64_in (r.len - r.pl) (by omega)] at e ⊢
      simp at e
      have z : (Ras.mk 0 0 (!r.odd) r.vbl r.nmi r.draw false).pl = 0 := rfl
      rw [z, IntWalk.i64_in (r.len - r.pl + 82181) (by omega), IntWalk.i64_in (r.len - r.pl + 82181 + 1) (by omega), IntWalk.i64_in (r.len - r.pl + 82181 + 1 - 0) (by omega)]
      refine fin _ ?_
      unfold Ras.nextD
      rw [if_neg (by rw [c]; simp), if_pos (by simpa using d), l2 (by omega)]; omega
    · have z : IntKind.i64.wrap (IntKind.i64.wrap (0 + 82181) + 1) = 82182 := by rfl
      rw [z, IntWalk.i64_in (82182 - r.pl) (by omega)]
      refine fin _ ?_
      unfold Ras.nextD
      rw [if_neg (by rw [c]; simp), if_neg (by simpa using d)]

theorem g9_ok : GamOK (E0 g9 noLoop) := gam_ok rfl ⟨con27.of, con28.of, con41.of, con47.of, con48.of, con44.of, trivial⟩
theorem con30 : ConOK (E0 g9 noLoop) 30 cNext := conR g9_ok (noLoops _) 3 Try.func30 fun r _ => p30 r
end Go.Sx
