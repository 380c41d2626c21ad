/- SxR2: a dot of a raster: what the code shows is the function. -/
import Derived.Test.YtmgaphghjhbhhaaSxR1
import Derived.IntWalk
namespace Go.Sx
open Go.Proofs
set_option linter.unusedVariables false
set_option linter.unusedSimpArgs false

theorem valid_iff (r : Ras) : r.valid = true ↔ 0 ≤ r.line ∧ r.line < 262 ∧ 0 ≤ r.dot ∧ r.dot < 341 ∧ (r.vbl = true → 82182 ≤ r.pl ∧ r.pl ≤ 89001) ∧ (r.hold = true → r.pl = 82181) := by
  unfold Ras.valid
  cases r.vbl <;> cases r.hold <;> simp [and_assoc]

theorem bool_eq_iff {a b : Bool} (h : a = true ↔ b = true) : a = b := by cases a <;> cases b <;> simp_all

theorem p27 (r : Ras) : bodyK (E0 gV noLoop) (callN (E0 gV noLoop) 5) 27 Try.f27 [r.sv] [] (fun x _ => onB (x.cl 0) (x = .b r.valid)) := by
  rw [t27]
  refine br_in (fun h1 => ?_) (fun h1 => br_in (fun h2 => ?_) (fun h2 => ?_)) <;> congr 1 <;> apply bool_eq_iff <;> rw [valid_iff] <;> simp only [Ras.pl] at * <;> simp at h1
  · simp; omega
  all_goals (rw [IntWalk.i64_in (r.line * 341) (by omega), IntWalk.i64_in _ (by omega)] at h2)
  · grind
  · rw [IntWalk.i64_in (r.line * 341) (by omega), IntWalk.i64_in _ (by omega)]
    cases hv : r.vbl <;> cases hh : r.hold <;> simp [hv, hh] at h2 ⊢ <;> omega

theorem p28 (r : Ras) : bodyK (E0 gV noLoop) (callN (E0 gV noLoop) 5) 28 Try.f28 [r.sv] [] (fun x _ => onB (x.cl 0) (x = .b r.valid)) := by
  rw [t28]
  refine br_in (fun h1 => ?_) (fun h1 => br_in (fun h2 => br_in (fun h3 => ?_) (fun h3 => br_in (fun h4 => ?_) (fun h4 => ?_))) (fun h2 => ?_)) <;> congr 1 <;> apply bool_eq_iff <;> rw [valid_iff] <;> simp only [Ras.pl] at * <;> simp at h1
  · simp; omega
  · simp at h3; simp [h2]; omega
  · simp at h4; simp [h2]; omega
  · simp at h3 h4
    cases hh : r.hold <;> simp [h2, hh] <;> omega
  · cases hh : r.hold <;> simp [h2, hh] <;> omega

theorem nextP_cases (r : Ras) : (nextP r = 0 ∧ (r.pl = 89341 ∨ (r.pl = 89340 ∧ r.odd = true ∧ r.draw = true))) ∨ (nextP r = r.pl + 1 ∧ r.pl ≠ 89341 ∧ ¬ (r.pl = 89340 ∧ r.odd = true ∧ r.draw = true)) := by
  unfold nextP; split <;> rename_i hc
  · exact .inl ⟨rfl, hc⟩
  · exact .inr ⟨rfl, fun e => hc (.inl e), fun e => hc (.inr e)⟩

set_option maxHeartbeats 4000000 in
theorem p43 (r : Ras) (hr : r.valid = true) : bodyK (E0 gV noLoop) (callN (E0 gV noLoop) 5) 43 Try.f43 [r.sv] [] (fun x _ => onB (x.cl 0) (x = two r.step.sv (.i .i64 (nat01 r.clock)))) := by
  rw [valid_iff] at hr
  rw [t43]
  have hq := nextP_cases r
  unfold Ras.step Ras.clock
  generalize nextP r = P at hq
  obtain ⟨l, d, o, v, n, w, h⟩ := r
  simp only [Ras.pl] at hr hq
  have e1 : 0 ≤ P ∧ P < 89342 := by omega
  simp only [IntWalk.i64_in (d + 1) (by omega), IntWalk.i64_in (l + 1) (by omega), two, rsv, Ras.sv, Ras.goOn, clk, SV.tup.injEq, SVs.cons.injEq, SV.agg.injEq, SV.i.injEq, SV.b.injEq, and_true, true_and, nat01]
  repeat' refine br_in (fun _ => ?_) (fun _ => ?_)
  all_goals cases o <;> cases w <;> cases v <;> cases h
  all_goals simp at hr hq
  all_goals simp at *
  all_goals first
    | omega
    | (split <;> omega)
end Go.Sx
