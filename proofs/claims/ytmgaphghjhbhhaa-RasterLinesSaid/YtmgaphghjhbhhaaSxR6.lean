/- SxR6: the line, the reads, the writes, near: contracts. -/
import Derived.Test.YtmgaphghjhbhhaaSxR5
namespace Go.Sx
open Go.Proofs
set_option linter.unusedVariables false
set_option linter.unusedSimpArgs false

theorem p36 (n lo hi : Int) (hn : i64 n) (h1 : 0 ≤ lo) (h2 : lo ≤ hi) (h3 : hi ≤ 4611686018427387904) :
    bodyK (E0 gV noLoop) (callN (E0 gV noLoop) 1) 36 Try.f36 [.i .i64 n, .i .i64 lo, .i .i64 hi] [] (fun x _ => onB (x.cl 0) (x = .i .i64 (spf n lo hi))) := by
  rw [t36]
  unfold i64 at hn
  have hm : IntKind.i64.wrap (IntKind.i64.wrap (hi - lo) + 1) = hi - lo + 1 := by
    rw [IntWalk.i64_in (hi - lo) (by omega), IntWalk.i64_in _ (by omega)]
  rw [hm]
  have key : ∀ m : Int, 0 ≤ m → m % (hi - lo + 1) = m.tmod (hi - lo + 1) ∧ 0 ≤ m % (hi - lo + 1) ∧ m % (hi - lo + 1) < hi - lo + 1 := fun m hm =>
    ⟨(Int.tmod_eq_emod_of_nonneg hm).symm, Int.emod_nonneg _ (by omega), Int.emod_lt_of_pos _ (by omega)⟩
  refine br_in (fun h => ?_) (fun h => ?_) <;> simp at h
  · rw [IntWalk.i64_in (n + 1) (by omega), IntWalk.i64_in (0 - (n + 1)) (by omega)]
    obtain ⟨k1, k2, k3⟩ := key (0 - (n + 1)) (by omega)
    refine onB_in (by simp; omega) ?_
    rw [← k1, IntWalk.i64_in _ (by omega)]
    unfold spf; rw [if_pos h]; congr 4; omega
  · obtain ⟨k1, k2, k3⟩ := key n (by omega)
    refine onB_in (by simp; omega) ?_
    rw [← k1, IntWalk.i64_in _ (by omega)]
    unfold spf; rw [if_neg (by omega)]

theorem and128 (v : Int) (h : u8 v) : (iand .u8 v 128 != 0) = decide (128 ≤ v) := by
  obtain ⟨h1, h2⟩ := h
  have key : ∀ k : Nat, k < 256 → (iand .u8 (k : Int) 128 != 0) = decide (128 ≤ (k : Int)) := by decide +kernel
  have e : v = (v.toNat : Int) := by omega
  rw [e]; exact key _ (by omega)

theorem i64_spf (n lo hi : Int) (h1 : 0 ≤ lo) (h2 : lo ≤ hi) : lo ≤ spf n lo hi ∧ spf n lo hi ≤ hi := by
  unfold spf
  have := Int.emod_nonneg (if n < 0 then -(n + 1) else n) (by omega : hi - lo + 1 ≠ 0)
  have := Int.emod_lt_of_pos (if n < 0 then -(n + 1) else n) (by omega : 0 < hi - lo + 1)
  omega

theorem p16 (r : Ras) (v : Int) (h : u8 v) : bodyK (E0 g3 noLoop) (callN (E0 g3 noLoop) 1) 16 Try.f16 [r.sv, .i .u8 v] [] (fun x _ => onB (x.cl 0) (x = (r.ctrl v).sv)) := by
  rw [t16, and128 v h]
  refine ⟨trivial, br_in (fun h => ?_) (fun h => ?_)⟩ <;> simp [Ras.ctrl, h, rsv, Ras.sv]
theorem p21 (r : Ras) (v : Int) : bodyK (E0 g3 noLoop) (callN (E0 g3 noLoop) 1) 21 Try.f21 [r.sv, .i .u8 v] [] (fun x _ => onB (x.cl 0) (x = (r.ctrl v).sv)) := by
  rw [t21]
  refine ⟨trivial, br_in (fun h => ?_) (fun h => ?_)⟩ <;> simp [Ras.ctrl, h, rsv, Ras.sv]
theorem p18 (r : Ras) (v : Int) : bodyK (E0 g3 noLoop) (callN (E0 g3 noLoop) 1) 18 Try.f18 [r.sv, .i .u8 v] [] (fun x _ => onB (x.cl 0) (x = (r.mask v).sv)) := by
  rw [t18]
  refine ⟨trivial, br_in (fun h => ?_) (fun h => ?_)⟩ <;> simp [Ras.mask, h, rsv, Ras.sv]
theorem p22 (r : Ras) (v : Int) : bodyK (E0 g3 noLoop) (callN (E0 g3 noLoop) 1) 22 Try.f22 [r.sv, .i .u8 v] [] (fun x _ => onB (x.cl 0) (x = (r.mask v).sv)) := by
  rw [t22]
  refine ⟨trivial, br_in (fun h => ?_) (fun h => ?_)⟩ <;> simp [Ras.mask, h, rsv, Ras.sv]
theorem p17 (r : Ras) : bodyK (E0 g3 noLoop) (callN (E0 g3 noLoop) 1) 17 Try.f17 [r.sv] [] (fun x _ => onB (x.cl 0) (x = .b r.up)) := by
  rw [t17]; exact ⟨trivial, rfl⟩
theorem p29 (r : Ras) : bodyK (E0 g3 noLoop) (callN (E0 g3 noLoop) 1) 29 Try.f29 [r.sv] [] (fun x _ => onB (x.cl 0) (x = .b r.up)) := by
  rw [t29]; exact ⟨trivial, rfl⟩

theorem pl_wrap {r : Ras} (h : r.valid = true) : IntKind.i64.wrap (IntKind.i64.wrap (r.line * 341) + r.dot) = r.pl := by
  rw [valid_iff] at h
  unfold Ras.pl at *
  rw [IntWalk.i64_in (r.line * 341) (by omega), IntWalk.i64_in _ (by omega)]

theorem p19 (r : Ras) : bodyK (E0 g3 noLoop) (callN (E0 g3 noLoop) 3) 19 Try.f19 [r.sv] [] (fun x _ => onB (x.cl 0) (x = two (.i .u8 r.stV) r.stR.sv)) := by
  rw [t19]
  refine ⟨trivial, br_in (fun h => ?_) (fun h => ?_)⟩
  · simp at h; simp [Ras.stV, Ras.stR, h]
  · simp at h
    rw [pl_wrap h]
    refine br_in (fun h1 => br_in (fun h2 => ?_) (fun h2 => ?_)) (fun h1 => br_in (fun h2 => ?_) (fun h2 => ?_)) <;>
      simp at h2 <;> simp [Ras.stV, Ras.stR, h, h1, h2, rsv, Ras.sv]
theorem p20 (r : Ras) : bodyK (E0 g3 noLoop) (callN (E0 g3 noLoop) 1) 20 Try.f20 [r.sv] [] (fun x _ => onB (x.cl 0) (x = two (.i .u8 r.stV) r.stR.sv)) := by
  rw [t20]
  refine ⟨trivial, br_in (fun h => ?_) (fun h => ?_)⟩
  · simp at h; simp [Ras.stV, Ras.stR, h]
  · simp at h
    have e : (r.line == 241 && r.dot == 0) = decide (r.pl = 82181) := by
      rw [valid_iff] at h
      unfold Ras.pl at *
      apply bool_eq_iff; simp; omega
    rw [e]
    refine br_in (fun h1 => br_in (fun h2 => ?_) (fun h2 => ?_)) (fun h1 => br_in (fun h2 => ?_) (fun h2 => ?_)) <;>
      simp at h2 <;> simp [Ras.stV, Ras.stR, h, h1, h2, rsv, Ras.sv]
theorem p26 (r : Ras) : bodyK (E0 g3 noLoop) (callN (E0 g3 noLoop) 1) 26 Try.f26 [r.sv] [] (fun x _ => onB (x.cl 0) (x = two r.tickR.sv (.i .i64 r.tickN))) := by
  rw [t26]
  refine ⟨trivial, br_in (fun h => ?_) (fun h => ?_)⟩
  · simp at h; simp [Ras.tickR, Ras.tickN, Ras.dotR, Ras.dotC, h, nat01]
  · simp at h; exact ⟨⟨h⟩, rfl⟩
theorem p15 (r : Ras) (h : r.fit) : bodyK (E0 g3 noLoop) (callN (E0 g3 noLoop) 3) 15 Try.f15 [r.sv] [] (fun x _ => onB (x.cl 0) (x = r.nearR.sv)) := by
  rw [t15]
  refine ⟨⟨h.1, by omega⟩, ⟨h.2, by omega⟩, ?_⟩
  simp only [rsv, Ras.sv, Ras.nearR, Ras.nearL]
  congr 9 <;> (try (apply bool_eq_iff; simp [and_assoc]; done))

/-! ### Contracts -/
theorem conRU {gam : List (Nat × Con)} {loop : List (Nat × Nat × LCon)} (hg : GamOK (E0 gam loop)) (hlo : LoopsOK (E0 gam loop)) (n : Nat) {f : FuncId} {fn : Func} (hfn : Try.prog.funcs[f]? = some fn) {p : Ras → Int → Prop} {F : Ras → Int → SV}
    (h : ∀ (r : Ras) (v : Int), p r v → bodyK (E0 gam loop) (callN (E0 gam loop) n) f fn [r.sv, .i .u8 v] [] (fun x _ => onB (x.cl 0) (x = F r v))) : ConOK (E0 gam loop) f (.pure (preRU p) (onRU F)) := by
  refine con_pure (E0_ok gam loop) hg hlo n hfn fun args v hv hp => ?_
  obtain ⟨r, k, rfl, rfl⟩ := onRU_some hv
  exact h r k (Chk.ok (p := p r k) hp)
theorem conRN {gam : List (Nat × Con)} {loop : List (Nat × Nat × LCon)} (hg : GamOK (E0 gam loop)) (hlo : LoopsOK (E0 gam loop)) (n : Nat) {f : FuncId} {fn : Func} (hfn : Try.prog.funcs[f]? = some fn) {p : Ras → Int → Prop} {F : Ras → Int → SV}
    (h : ∀ (r : Ras) (v : Int), p r v → bodyK (E0 gam loop) (callN (E0 gam loop) n) f fn [r.sv, .i .i64 v] [] (fun x _ => onB (x.cl 0) (x = F r v))) : ConOK (E0 gam loop) f (.pure (preRN p) (onRN F)) := by
  refine con_pure (E0_ok gam loop) hg hlo n hfn fun args v hv hp => ?_
  obtain ⟨r, k, rfl, rfl⟩ := onRN_some hv
  exact h r k (Chk.ok (p := p r k) hp)

theorem con36 : ConOK (E0 gV noLoop) 36 cSpan := by
  refine con_pure (E0_ok _ _) gV_ok (noLoops _) 1 Try.func36 fun args v hv hp => ?_
  unfold onSpan at hv
  split at hv
  · simp at hv; subst hv
    rename_i n lo hi
    have := Chk.ok (p := spanOK n lo hi) hp
    exact p36 n lo hi this.1 this.2.1 this.2.2.1 this.2.2.2
  · simp at hv
theorem g3_ok : GamOK (E0 g3 noLoop) := gam_ok rfl ⟨con36.of, con25.of, con44.of, con23.of, con24.of, con27.of, con28.of, con43.of, trivial⟩
theorem con15 : ConOK (E0 g3 noLoop) 15 cNear := conR g3_ok (noLoops _) 3 Try.func15 fun r h => p15 r (preR_some (p := fun r => r.fit) h)
theorem con16 : ConOK (E0 g3 noLoop) 16 cCtrl := conRU g3_ok (noLoops _) 1 Try.func16 fun r v h => p16 r v h
theorem con21 : ConOK (E0 g3 noLoop) 21 cCtrl := conRU g3_ok (noLoops _) 1 Try.func21 fun r v h => p21 r v
theorem con18 : ConOK (E0 g3 noLoop) 18 cMask := conRU g3_ok (noLoops _) 1 Try.func18 fun r v h => p18 r v
theorem con22 : ConOK (E0 g3 noLoop) 22 cMask := conRU g3_ok (noLoops _) 1 Try.func22 fun r v h => p22 r v
theorem con17 : ConOK (E0 g3 noLoop) 17 cLine := conR g3_ok (noLoops _) 1 Try.func17 fun r _ => p17 r
theorem con29 : ConOK (E0 g3 noLoop) 29 cLine := conR g3_ok (noLoops _) 1 Try.func29 fun r _ => p29 r
theorem con19 : ConOK (E0 g3 noLoop) 19 cStat := conR g3_ok (noLoops _) 3 Try.func19 fun r _ => p19 r
theorem con20 : ConOK (E0 g3 noLoop) 20 cStat := conR g3_ok (noLoops _) 1 Try.func20 fun r _ => p20 r
theorem con26 : ConOK (E0 g3 noLoop) 26 cTick := conR g3_ok (noLoops _) 1 Try.func26 fun r _ => p26 r
end Go.Sx
