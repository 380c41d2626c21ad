/- SxR11: place, length, struck, skip: contracts. -/
import Derived.Test.YtmgaphghjhbhhaaSxR10
namespace Go.Sx
open Go.Proofs
set_option linter.unusedVariables false
set_option linter.unusedSimpArgs false

theorem pl_range {r : Ras} (h : r.valid = true) : 0 ≤ r.pl ∧ r.pl ≤ 89341 := by
  rw [valid_iff] at h; unfold Ras.pl; omega
theorem struck_range (p : Int) : 0 ≤ struck p ∧ struck p ≤ 241 := by
  unfold struck; repeat' split
  all_goals omega

theorem p41 (r : Ras) (h : r.valid = true) : bodyK (E0 gV noLoop) (callN (E0 gV noLoop) 1) 41 Try.f41 [r.sv] [] (fun x _ => onB (x.cl 0) (x = .i .i64 r.pl)) := by
  rw [t41, pl_wrap h]
theorem p47 (r : Ras) : bodyK (E0 gV noLoop) (callN (E0 gV noLoop) 1) 47 Try.f47 [r.sv] [] (fun x _ => onB (x.cl 0) (x = .i .i64 r.len)) := by
  rw [t47]
  refine br_in (fun h => ?_) (fun h => ?_) <;> simp at h <;> simp [Ras.len, h]
  exact h
theorem p48 (p : Int) (h : okPlace p) : bodyK (E0 gV noLoop) (callN (E0 gV noLoop) 1) 48 Try.f48 [.i .i64 p] [] (fun x _ => onB (x.cl 0) (x = .i .i64 (struck p))) := by
  rw [t48]
  obtain ⟨h1, h2⟩ := h
  refine br_in (fun h => ?_) (fun h => ?_) <;> simp at h
  · congr 1; unfold struck; rw [if_pos h]
  · rw [IntWalk.i64_in (p - 260) (by omega), IntWalk.i64_quo (p - 260) 341 (by omega), IntWalk.i64_in ((p - 260) / 341 + 1) (by omega)]
    have e : (bif decide (240 < (p - 260) / 341 + 1) then 240 else (p - 260) / 341 + 1) = if (p - 260) / 341 + 1 < 240 then (p - 260) / 341 + 1 else 240 := by
      rw [cond_eq_ite]; simp only [decide_eq_true_eq]
      repeat' split
      all_goals omega
    rw [e]
    have es : struck p = (if (p - 260) / 341 + 1 < 240 then (p - 260) / 341 + 1 else 240) + (if 89261 ≤ p then 1 else 0) := by
      unfold struck; rw [if_neg (by omega)]
    have er : 0 ≤ (if (p - 260) / 341 + 1 < 240 then (p - 260) / 341 + 1 else 240) ∧ (if (p - 260) / 341 + 1 < 240 then (p - 260) / 341 + 1 else 240) ≤ 240 := by
      split <;> omega
    generalize (if (p - 260) / 341 + 1 < 240 then (p - 260) / 341 + 1 else 240) = c at *
    rw [es]
    refine br_in (fun h3 => ?_) (fun h3 => ?_) <;> simp at h3 <;> congr 1
    · rw [if_pos h3, IntWalk.i64_in _ (by omega)]
    · rw [if_neg (by omega)]; omega
theorem p56 (r : Ras) (n : Int) (h : okSkip r n) : bodyK (E0 g5 noLoop) (callN (E0 g5 noLoop) 1) 56 Try.f56 [r.sv, .i .i64 n] [] (fun x _ => onB (x.cl 0) (x = two (r.jump (r.pl + n)).sv (.i .i64 (r.skN n)))) := by
  obtain ⟨hv, h1, h2⟩ := h
  have hp := pl_range hv
  have s1 := struck_range (r.pl + n)
  have s2 := struck_range r.pl
  rw [t56, IntWalk.i64_in (r.pl + n) (by omega), IntWalk.i64_quo (r.pl + n) 341 (by omega), IntWalk.rem_in (r.pl + n) 341 (by omega), IntWalk.i64_in (struck (r.pl + n) - struck r.pl) (by omega)]
  refine ⟨⟨hv⟩, ?_⟩
  refine br_in (fun hd => ⟨⟨by unfold okPlace; omega⟩, ⟨by unfold okPlace; omega⟩, ?_⟩) (fun hd => ?_) <;>
    (refine br_in (fun a => br_in (fun b => ?_) (fun b => ?_)) (fun a => br_in (fun b => ?_) (fun b => ?_)) <;>
      simp only [Bool.and_eq_true, decide_eq_true_eq, Bool.and_eq_false_iff, decide_eq_false_iff_not] at a b <;>
      simp only [rsv, Ras.sv, Ras.jump, Ras.skN, hd, if_true, Bool.false_eq_true, if_false] <;>
      (have a' : (r.pl < 82182 ∧ 82182 ≤ r.pl + n) = True ∨ (r.pl < 82182 ∧ 82182 ≤ r.pl + n) = False := by
        by_cases c : (r.pl < 82182 ∧ 82182 ≤ r.pl + n)
        · exact .inl (eq_true c)
        · exact .inr (eq_false c)
       have b' : (r.pl < 89002 ∧ 89002 ≤ r.pl + n) = True ∨ (r.pl < 89002 ∧ 89002 ≤ r.pl + n) = False := by
        by_cases c : (r.pl < 89002 ∧ 89002 ≤ r.pl + n)
        · exact .inl (eq_true c)
        · exact .inr (eq_false c)
       rcases a' with a' | a' <;> rcases b' with b' | b' <;> simp only [a', b', if_true, if_false] <;> first
        | rfl
        | (exfalso; have a2 := of_eq_true a'; omega)
        | (exfalso; have a2 := of_eq_false a'; omega)
        | (exfalso; have b2 := of_eq_true b'; omega)
        | (exfalso; have b2 := of_eq_false b'; omega)))

theorem con41 : ConOK (E0 gV noLoop) 41 cPlace := conR gV_ok (noLoops _) 1 Try.func41 fun r h => p41 r (preR_some (p := fun r => r.valid = true) h)
theorem con47 : ConOK (E0 gV noLoop) 47 cLen := conR gV_ok (noLoops _) 1 Try.func47 fun r _ => p47 r
theorem con48 : ConOK (E0 gV noLoop) 48 cStruck := by
  refine con_pure (E0_ok _ _) gV_ok (noLoops _) 1 Try.func48 fun args v hv hp => ?_
  obtain ⟨n, rfl, rfl⟩ := onN_some hv
  exact p48 n (Chk.ok (p := okPlace n) hp)
theorem g5_ok : GamOK (E0 g5 noLoop) := gam_ok rfl ⟨con41.of, con47.of, con48.of, trivial⟩
theorem con56 : ConOK (E0 g5 noLoop) 56 cSkip := conRN g5_ok (noLoops _) 1 Try.func56 fun r n h => p56 r n h
end Go.Sx
