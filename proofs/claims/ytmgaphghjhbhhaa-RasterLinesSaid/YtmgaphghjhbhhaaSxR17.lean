/- SxR17: the document's Advance: contract. -/
import Derived.Test.YtmgaphghjhbhhaaSxR16
namespace Go.Sx
open Go.Proofs
set_option linter.unusedVariables false
set_option linter.unusedSimpArgs false

theorem p35 (r : Ras) (n : Int) (hn : i64 n) : bodyK (E0 g7 L35) (callN (E0 g7 L35) 1) 35 Try.f35 [r.sv, .i .i64 n] [] (fun x _ => onB (x.cl 0) (x = two (r.advR n).sv (.i .i64 (IntKind.wrap .i64 (r.advN n))))) := by
  rw [t35]
  unfold i64 at hn
  refine ⟨trivial, br_in (fun b => ?_) (fun b => ?_)⟩
  · have : ¬ (r.valid = true ∧ 1 ≤ n) := by
      rintro ⟨h1, h2⟩; simp [h1] at b; omega
    unfold Ras.advR Ras.advN
    rw [if_neg this, if_neg this]; rfl
  · simp at b
    have hv : r.valid = true ∧ 1 ≤ n := ⟨b.1, by omega⟩
    unfold Ras.advR Ras.advN
    rw [if_pos hv, if_pos hv]
    have w2 : IntKind.i64.wrap (2 * 59561) = 119122 := by rfl
    have w3 : IntKind.i64.wrap (2 * 178684) = 357368 := by rfl
    rw [w2, w3]
    have small : n ≤ 357368 → Chk (ok35 r n 0) ∧ two (Ras.its (3 * n.toNat) r).sv (SV.i IntKind.i64 (0 + Ras.cks (3 * n.toNat) r)) = two (Ras.its (3 * n.toNat) r).sv (SV.i IntKind.i64 (IntKind.i64.wrap (Ras.cks (3 * n.toNat) r))) := by
      intro hs
      have := cks_le (3 * n.toNat) r
      rw [Int.zero_add, IntWalk.i64_in (Ras.cks (3 * n.toNat) r) (by omega)]
      exact ⟨⟨hv.1, by omega, by omega, by omega, by omega⟩, rfl⟩
    refine br_in (fun d => br_in (fun c => ?_) (fun c => ?_)) (fun d => br_in (fun c => ?_) (fun c => ?_)) <;> simp at c
    · rw [d]
      show Chk _ ∧ _
      rw [IntWalk.i64_in (n - 59561) (by omega), IntWalk.i64_quo (n - 59561) 59561 (by omega)]
      have hk : 0 ≤ (n - 59561) / 59561 ∧ 59561 ≤ n - (n - 59561) / 59561 * 59561 ∧ n - (n - 59561) / 59561 * 59561 ≤ 119122 := by omega
      generalize (n - 59561) / 59561 = k at *
      rw [IntWalk.i64_in (k * 59561) (by omega), IntWalk.i64_in (n - k * 59561) (by omega), IntWalk.i64_in (k * 482) (by omega)]
      have hp : pair r.draw = 178683 := by unfold pair; rw [if_pos d]
      have hc := cks_le (3 * (n - k * 59561).toNat) r
      obtain ⟨e1, e2⟩ := its_back hv.1 (3 * n.toNat) (3 * (n - k * 59561).toNat) k.toNat (by omega) (by rw [hp]; omega)
      refine ⟨⟨hv.1, by omega, by omega, by omega, by omega⟩, ?_⟩
      have e3 : k * 482 + Ras.cks (3 * (n - k * 59561).toNat) r = Ras.cks (3 * (n - k * 59561).toNat) r + (k.toNat : Int) * 482 := by omega
      rw [e1, e2, if_pos d, e3, IntWalk.i64_in (Ras.cks (3 * (n - k * 59561).toNat) r + (k.toNat : Int) * 482) (by omega)]
    · exact small (by omega)
    · rw [d]
      show Chk _ ∧ _
      rw [IntWalk.i64_in (n - 178684) (by omega), IntWalk.i64_quo (n - 178684) 178684 (by omega)]
      have hk : 0 ≤ (n - 178684) / 178684 ∧ 178684 ≤ n - (n - 178684) / 178684 * 178684 ∧ n - (n - 178684) / 178684 * 178684 ≤ 357368 := by omega
      generalize (n - 178684) / 178684 = k at *
      rw [IntWalk.i64_in (k * 178684) (by omega), IntWalk.i64_in (n - k * 178684) (by omega)]
      have hp : pair r.draw = 178684 := by unfold pair; rw [if_neg (by rw [d]; simp)]
      have hc := cks_le (3 * (n - k * 178684).toNat) r
      obtain ⟨e1, e2⟩ := its_back hv.1 (3 * n.toNat) (3 * (n - k * 178684).toNat) (3 * k.toNat) (by omega) (by rw [hp]; omega)
      refine ⟨⟨hv.1, by omega, by omega, by omega, by omega⟩, ?_⟩
      have e3 : 0 + Ras.cks (3 * (n - k * 178684).toNat) r = Ras.cks (3 * (n - k * 178684).toNat) r + ((3 * k.toNat : Nat) : Int) * 0 := by omega
      rw [e1, e2, if_neg (by rw [d]; simp), ← e3, Int.zero_add, IntWalk.i64_in (Ras.cks (3 * (n - k * 178684).toNat) r) (by omega)]
    · exact small (by omega)
theorem g7L_ok : GamOK (E0 g7 L35) := gam_ok rfl ⟨con50.of, con27.of, con28.of, con44.of, trivial⟩
theorem con35 : ConOK (E0 g7 L35) 35 cAdv := conRN g7L_ok (L35_ok _) 1 Try.func35 fun r n h => p35 r n h
end Go.Sx
