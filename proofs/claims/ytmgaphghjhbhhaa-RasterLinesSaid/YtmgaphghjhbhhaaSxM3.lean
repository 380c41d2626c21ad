/- SxM3: Advance as a plain law. -/
import Derived.Test.YtmgaphghjhbhhaaSxR17
import Derived.Test.YtmgaphghjhbhhaaSxR9
namespace Go.Sx
open Go.Proofs
set_option linter.unusedVariables false
set_option linter.unusedSimpArgs false

theorem near_valid (r : Ras) : r.nearR.valid = true := by
  have h := near_range r
  rw [valid_iff]
  have hl : r.nearR.line = spf r.line 0 261 := rfl
  have hd : r.nearR.dot = spf r.dot 0 340 := rfl
  refine ⟨h.1, by omega, h.2.2.1, by omega, fun hv => ?_, fun hh => ?_⟩
  · have hv' : (r.vbl && r.nearL) = true := hv
    simp only [Ras.nearL, Bool.and_eq_true, Bool.or_eq_true, decide_eq_true_eq] at hv'
    unfold Ras.pl; omega
  · have hh' : (r.hold && decide (spf r.line 0 261 = 241 ∧ spf r.dot 0 340 = 0)) = true := hh
    simp only [Bool.and_eq_true, decide_eq_true_eq] at hh'
    unfold Ras.pl; omega

theorem advR_eq {r : Ras} (h : r.valid = true) (n : Int) : r.advR n = Ras.its (3 * n.toNat) r ∧ r.advN n = Ras.cks (3 * n.toNat) r := by
  unfold Ras.advR Ras.advN
  by_cases c : 1 ≤ n
  · rw [if_pos ⟨h, c⟩, if_pos ⟨h, c⟩]; exact ⟨rfl, rfl⟩
  · rw [if_neg (fun k => c k.2), if_neg (fun k => c k.2)]
    have : 3 * n.toNat = 0 := by omega
    rw [this]; exact ⟨rfl, rfl⟩
theorem advR_valid {r : Ras} (h : r.valid = true) (n : Int) : (r.advR n).valid = true := by rw [(advR_eq h n).1]; exact its_valid _ h
theorem advR_add {r : Ras} (h : r.valid = true) {a b : Int} (ha : 0 ≤ a) (hb : 0 ≤ b) : (r.advR a).advR b = r.advR (a + b) ∧ r.advN a + (r.advR a).advN b = r.advN (a + b) := by
  obtain ⟨e1, e2⟩ := advR_eq h a
  obtain ⟨e3, e4⟩ := advR_eq (advR_valid h a) b
  obtain ⟨e5, e6⟩ := advR_eq h (a + b)
  rw [e3, e4, e5, e6, e1, e2]
  have : 3 * (a + b).toNat = 3 * a.toNat + 3 * b.toNat := by omega
  rw [this, its_add, cks_add]; exact ⟨rfl, rfl⟩
theorem advR_one {r : Ras} (h : r.valid = true) : r.advR 1 = r.tickR ∧ r.advN 1 = r.tickN := by
  obtain ⟨e1, e2⟩ := advR_eq h 1
  obtain ⟨e3, e4⟩ := tick_its h
  rw [e1, e2, e3, e4]; exact ⟨rfl, rfl⟩
theorem tickN_le (r : Ras) : 0 ≤ r.tickN ∧ r.tickN ≤ 3 := by
  unfold Ras.tickN
  have := nat01_le r.dotC
  have := nat01_le r.dotR.dotC
  have := nat01_le r.dotR.dotR.dotC
  omega
theorem step_pl (r : Ras) : r.step.pl = nextP r := by unfold Ras.step Ras.goOn Ras.pl; simp only; omega
theorem tick_moves {r : Ras} (h : r.valid = true) : (r.tickR.line == r.line && r.tickR.dot == r.dot) = false := by
  rw [(tick_its h).1]
  have p0 := pl_range h
  have q1 := nextP_cases r
  have q2 := nextP_cases r.step
  have q3 := nextP_cases r.step.step
  have e : (Ras.its 3 r).pl = nextP r.step.step := by
    show r.step.step.step.pl = _
    exact step_pl _
  rw [step_pl] at q2 q3
  rw [← e] at q3
  have hne : (Ras.its 3 r).pl ≠ r.pl := by omega
  cases hb : ((Ras.its 3 r).line == r.line && (Ras.its 3 r).dot == r.dot) with
  | false => rfl
  | true =>
    simp at hb
    exfalso; apply hne
    unfold Ras.pl; rw [hb.1, hb.2]
theorem wrap_wrap (a b : Int) : IntKind.i64.wrap (IntKind.i64.wrap a + IntKind.i64.wrap b) = IntKind.i64.wrap (a + b) := by
  simp only [IntKind.wrap_i64]; omega
end Go.Sx
