/- SxR4: Valid, Dot, Tick: contracts. -/
import Derived.Test.YtmgaphghjhbhhaaSxR3
namespace Go.Sx
open Go.Proofs
set_option linter.unusedVariables false
set_option linter.unusedSimpArgs false

theorem step_valid {r : Ras} (h : r.valid = true) : r.step.valid = true := by
  rw [valid_iff] at h ⊢
  have hq := nextP_cases r
  unfold Ras.step
  generalize nextP r = P at hq
  obtain ⟨l, d, o, v, n, w, hh⟩ := r
  simp only [Ras.pl, Ras.goOn] at *
  have e1 : 0 ≤ P ∧ P < 89342 := by omega
  have e2 : P / 341 * 341 + P % 341 = P := by omega
  rw [e2]
  refine ⟨by omega, by omega, by omega, by omega, ?_, ?_⟩
  · cases v <;> cases hh <;> simp at * <;> (repeat' split) <;> (try simp) <;> omega
  · cases v <;> cases hh <;> simp at * <;> omega

theorem nat01_le (b : Bool) : 0 ≤ nat01 b ∧ nat01 b ≤ 1 := by cases b <;> simp [nat01]

theorem p24 (r : Ras) : bodyK (E0 g1 noLoop) (callN (E0 g1 noLoop) 1) 24 Try.f24 [r.sv] [] (fun x _ => onB (x.cl 0) (x = two r.dotR.sv (.b r.dotC))) := by
  rw [t24]
  refine ⟨trivial, br_in (fun h => ?_) (fun h => ?_)⟩
  · simp at h; simp [Ras.dotR, Ras.dotC, h]
  · simp at h; refine ⟨⟨h⟩, ?_⟩; simp [Ras.dotR, Ras.dotC, h]
    cases r.clock <;> rfl

set_option maxHeartbeats 4000000 in
theorem p23 (r : Ras) : bodyK (E0 g1 noLoop) (callN (E0 g1 noLoop) 3) 23 Try.f23 [r.sv] [] (fun x _ => onB (x.cl 0) (x = two r.dotR.sv (.b r.dotC))) := by
  rw [t23]
  refine ⟨trivial, br_in (fun h => ?_) (fun hv => ?_)⟩
  · simp at h; simp [Ras.dotR, Ras.dotC, h]
  · simp at hv
    simp only [Ras.dotR, Ras.dotC, hv, if_true, Bool.true_and]
    rw [valid_iff] at hv
    have hq := nextP_cases r
    unfold Ras.step Ras.clock
    generalize nextP r = P at hq
    obtain ⟨l, d, o, v, n, w, h⟩ := r
    simp only [Ras.pl] at hv hq
    have e1 : 0 ≤ P ∧ P < 89342 := by omega
    have e3 : (l + 1).tmod 262 = if l = 261 then 0 else l + 1 := by
      rw [Int.tmod_eq_emod_of_nonneg (by omega)]; split <;> omega
    simp only [IntWalk.i64_in (d + 1) (by omega), IntWalk.i64_in (l + 1) (by omega), e3, two, rsv, Ras.sv, Ras.goOn, clk, SV.tup.injEq, SVs.cons.injEq, SV.agg.injEq, SV.i.injEq, SV.b.injEq, and_true, true_and, nat01]
    repeat' refine br_in (fun _ => ?_) (fun _ => ?_)
    all_goals cases o <;> cases w <;> cases v <;> cases h
    all_goals simp at hv hq
    all_goals simp at *
    all_goals first
      | omega
      | (split at * <;> omega)
      | (apply bool_eq_iff; simp; omega)
      | (refine ⟨by omega, ?_⟩; apply bool_eq_iff; simp; omega)

theorem p25 (r : Ras) : bodyK (E0 g2 noLoop) (callN (E0 g2 noLoop) 1) 25 Try.f25 [r.sv] [] (fun x _ => onB (x.cl 0) (x = two r.tickR.sv (.i .i64 r.tickN))) := by
  rw [t25]
  refine ⟨trivial, br_in (fun h1 => ⟨trivial, br_in (fun h2 => ⟨trivial, br_in (fun h3 => ?_) (fun h3 => ?_)⟩) (fun h2 => ⟨trivial, br_in (fun h3 => ?_) (fun h3 => ?_)⟩)⟩) (fun h1 => ⟨trivial, br_in (fun h2 => ⟨trivial, br_in (fun h3 => ?_) (fun h3 => ?_)⟩) (fun h2 => ⟨trivial, br_in (fun h3 => ?_) (fun h3 => ?_)⟩)⟩)⟩ <;>
    (unfold Ras.tickR Ras.tickN; rw [h1, h2, h3]; rfl)

theorem p44 (r : Ras) (h : r.valid = true) : bodyK (E0 g2 noLoop) (callN (E0 g2 noLoop) 1) 44 Try.f44 [r.sv] [] (fun x _ => onB (x.cl 0) (x = two r.tickR.sv (.i .i64 r.tickN))) := by
  rw [t44]
  have h2 := step_valid h
  have h3 := step_valid h2
  refine ⟨⟨h⟩, ⟨h2⟩, ⟨h3⟩, ?_⟩
  have := nat01_le r.clock
  have := nat01_le r.step.clock
  have := nat01_le r.step.step.clock
  rw [IntWalk.i64_in (nat01 r.clock + nat01 r.step.clock) (by omega), IntWalk.i64_in _ (by omega)]
  simp [Ras.tickR, Ras.tickN, Ras.dotR, Ras.dotC, h, h2, h3]

/-! ### Contracts -/
theorem preR_some {p : Ras → Prop} {r : Ras} (h : preR p [r.sv]) : p r := Chk.ok (p := p r) h

theorem conR {gam : List (Nat × Con)} {loop : List (Nat × Nat × LCon)} (hg : GamOK (E0 gam loop)) (hlo : LoopsOK (E0 gam loop)) (n : Nat) {f : FuncId} {fn : Func} (hfn : Try.prog.funcs[f]? = some fn) {pre : List SV → Prop} {F : Ras → SV}
    (h : ∀ r : Ras, pre [r.sv] → bodyK (E0 gam loop) (callN (E0 gam loop) n) f fn [r.sv] [] (fun x _ => onB (x.cl 0) (x = F r))) : ConOK (E0 gam loop) f (.pure pre (onR F)) := by
  refine con_pure (E0_ok gam loop) hg hlo n hfn fun args v hv hp => ?_
  obtain ⟨r, rfl, rfl⟩ := onR_some hv
  exact h r hp

theorem gV_ok : GamOK (E0 gV noLoop) := gam_ok rfl trivial

theorem ConOK.of {gam gam' : List (Nat × Con)} {loop loop' : List (Nat × Nat × LCon)} {f : FuncId} {c : Con} (h : ConOK (E0 gam loop) f c) : ConOK (E0 gam' loop') f c := ConOK.env rfl rfl h

theorem con27 : ConOK (E0 gV noLoop) 27 cV := conR gV_ok (noLoops _) 5 Try.func27 fun r _ => p27 r
theorem con28 : ConOK (E0 gV noLoop) 28 cV := conR gV_ok (noLoops _) 5 Try.func28 fun r _ => p28 r
theorem con43 : ConOK (E0 gV noLoop) 43 cD := conR gV_ok (noLoops _) 5 Try.func43 fun r h => p43 r (preR_some (p := fun r => r.valid = true) h)
theorem g1_ok : GamOK (E0 g1 noLoop) := gam_ok rfl ⟨con27.of, con28.of, con43.of, trivial⟩
theorem con23 : ConOK (E0 g1 noLoop) 23 cDot := conR g1_ok (noLoops _) 3 Try.func23 fun r _ => p23 r
theorem con24 : ConOK (E0 g1 noLoop) 24 cDot := conR g1_ok (noLoops _) 1 Try.func24 fun r _ => p24 r
theorem g2_ok : GamOK (E0 g2 noLoop) := gam_ok rfl ⟨con23.of, con24.of, con27.of, con28.of, con43.of, trivial⟩
theorem con25 : ConOK (E0 g2 noLoop) 25 cTick := conR g2_ok (noLoops _) 1 Try.func25 fun r _ => p25 r
theorem con44 : ConOK (E0 g2 noLoop) 44 cT := conR g2_ok (noLoops _) 1 Try.func44 fun r h => p44 r (preR_some (p := fun r => r.valid = true) h)

end Go.Sx
