/- SxR15: runs, raster.Advance: contracts; the loop of the document's Advance. -/
import Derived.Test.YtmgaphghjhbhhaaSxR14
namespace Go.Sx
open Go.Proofs
set_option linter.unusedVariables false
set_option linter.unusedSimpArgs false

theorem p50 (r : Ras) (n : Int) (h : okRuns r n 0) : bodyK (E0 g6 L50) (callN (E0 g6 L50) 1) 50 Try.f50 [r.sv, .i .i64 n] [] (fun x _ => onB (x.cl 0) (x = two (Ras.its n.toNat r).sv (.i .i64 (Ras.cks n.toNat r)))) := by
  rw [t50]
  exact ⟨⟨h⟩, by rw [Int.zero_add], fun _ _ _ => by rw [Int.zero_add]⟩

theorem g6L_ok : GamOK (E0 g6 L50) := gam_ok rfl ⟨con56.of, con41.of, con47.of, con23.of, trivial⟩
theorem con50 : ConOK (E0 g6 L50) 50 cRuns := conRN g6L_ok (L50_ok _) 1 Try.func50 fun r n h => p50 r n h
theorem g7_ok : GamOK (E0 g7 noLoop) := gam_ok rfl ⟨con50.of, con27.of, con28.of, con44.of, trivial⟩

theorem its_back {r : Ras} (h : r.valid = true) (a b j : Nat) (ha : 89342 ≤ b) (e : a = b + j * pair r.draw) :
    Ras.its a r = Ras.its b r ∧ Ras.cks a r = Ras.cks b r + j * (if r.draw = true then 482 else 0) := by
  rw [e]; exact its_pairs h b ha j

theorem p34 (r : Ras) (n : Int) (hn : i64 n) : bodyK (E0 g7 noLoop) (callN (E0 g7 noLoop) 1) 34 Try.f34 [r.sv, .i .i64 n] [] (fun x _ => onB (x.cl 0) (x = two (r.advR n).sv (.i .i64 (IntKind.wrap .i64 (r.advN n))))) := by
  rw [t34]
  unfold i64 at hn
  refine br_in (fun a => ⟨trivial, br_in (fun b => ?_) (fun b => ?_)⟩) (fun a => br_in (fun b => ?_) (fun b => ?_)) <;> simp at a
  · have : ¬ (r.valid = true ∧ 1 ≤ n) := by
      rintro ⟨h1, h2⟩; simp [h1] at b; omega
    unfold Ras.advR Ras.advN
    rw [if_neg this, if_neg this]; rfl
  · simp at b
    have hv : r.valid = true ∧ 1 ≤ n := ⟨b.2, by omega⟩
    unfold Ras.advR Ras.advN
    rw [if_pos hv, if_pos hv]
    have w2 : IntKind.i64.wrap (2 * 178683) = 357366 := by rfl
    have w3 : IntKind.i64.wrap (2 * 178684) = 357368 := by rfl
    rw [w2, w3]
    have small : n ≤ 357368 → Chk (okRuns r (IntKind.i64.wrap (3 * n)) 0) ∧ two (Ras.its (IntKind.i64.wrap (3 * n)).toNat r).sv (SV.i IntKind.i64 (IntKind.i64.wrap (0 + Ras.cks (IntKind.i64.wrap (3 * n)).toNat r))) = two (Ras.its (3 * n.toNat) r).sv (SV.i IntKind.i64 (IntKind.i64.wrap (Ras.cks (3 * n.toNat) r))) := by
      intro hs
      rw [IntWalk.i64_in (3 * n) (by omega)]
      have e : (3 * n).toNat = 3 * n.toNat := by omega
      rw [e, Int.zero_add]
      exact ⟨⟨hv.1, by omega, by omega, by omega, by omega⟩, rfl⟩
    refine br_in (fun d => br_in (fun c => ?_) (fun c => ?_)) (fun d => br_in (fun c => ?_) (fun c => ?_)) <;> simp at c
    · rw [IntWalk.i64_in (n - 178683) (by omega), IntWalk.i64_quo (n - 178683) 178683 (by omega)]
      have hk : 0 ≤ (n - 178683) / 178683 ∧ 178683 ≤ n - (n - 178683) / 178683 * 178683 ∧ n - (n - 178683) / 178683 * 178683 ≤ 357366 := by omega
      generalize (n - 178683) / 178683 = k at *
      rw [IntWalk.i64_in (k * 178683) (by omega), IntWalk.i64_in (n - k * 178683) (by omega), IntWalk.i64_in (3 * (n - k * 178683)) (by omega), IntWalk.i64_in (k * 1446) (by omega)]
      have hp : pair r.draw = 178683 := by unfold pair; rw [if_pos d]
      obtain ⟨e1, e2⟩ := its_back hv.1 (3 * n.toNat) (3 * (n - k * 178683)).toNat (3 * k.toNat) (by omega) (by rw [hp]; omega)
      refine ⟨⟨hv.1, by omega, by omega, by omega, by omega⟩, ?_⟩
      have e3 : k * 1446 + Ras.cks (3 * (n - k * 178683)).toNat r = Ras.cks (3 * (n - k * 178683)).toNat r + ((3 * k.toNat : Nat) : Int) * 482 := by omega
      rw [e1, e2, if_pos d, e3]
    · exact small (by omega)
    · rw [IntWalk.i64_in (n - 178684) (by omega), IntWalk.i64_quo (n - 178684) 178684 (by omega)]
      have hk : 0 ≤ (n - 178684) / 178684 ∧ 178684 ≤ n - (n - 178684) / 178684 * 178684 ∧ n - (n - 178684) / 178684 * 178684 ≤ 357368 := by omega
      generalize (n - 178684) / 178684 = k at *
      rw [IntWalk.i64_in (k * 178684) (by omega), IntWalk.i64_in (n - k * 178684) (by omega), IntWalk.i64_in (3 * (n - k * 178684)) (by omega), IntWalk.i64_in (k * 0) (by omega)]
      have hp : pair r.draw = 178684 := by unfold pair; rw [if_neg (by rw [d]; simp)]
      obtain ⟨e1, e2⟩ := its_back hv.1 (3 * n.toNat) (3 * (n - k * 178684)).toNat (3 * k.toNat) (by omega) (by rw [hp]; omega)
      refine ⟨⟨hv.1, by omega, by omega, by omega, by omega⟩, ?_⟩
      have e3 : k * 0 + Ras.cks (3 * (n - k * 178684)).toNat r = Ras.cks (3 * (n - k * 178684)).toNat r + ((3 * k.toNat : Nat) : Int) * 0 := by omega
      rw [e1, e2, if_neg (by rw [d]; simp), e3]
    · exact small (by omega)
  · have : ¬ (r.valid = true ∧ 1 ≤ n) := by rintro ⟨h1, h2⟩; omega
    unfold Ras.advR Ras.advN
    rw [if_neg this, if_neg this]; rfl
  · simp at b
theorem con34 : ConOK (E0 g7 noLoop) 34 cAdv := conRN g7_ok (noLoops _) 1 Try.func34 fun r n h => p34 r n h

/-! ### The document's Advance -/
theorem tick_its {r : Ras} (h : r.valid = true) : r.tickR = Ras.its 3 r ∧ r.tickN = Ras.cks 3 r := by
  have h2 := step_valid h
  have h3 := step_valid h2
  have e1 : r.dotR = r.step := by unfold Ras.dotR; rw [if_pos h]
  have e2 : r.step.dotR = r.step.step := by unfold Ras.dotR; rw [if_pos h2]
  have e3 : r.step.step.dotR = r.step.step.step := by unfold Ras.dotR; rw [if_pos h3]
  unfold Ras.tickR Ras.tickN Ras.dotC
  rw [e1, e2, e3, h, h2, h3]
  simp only [Ras.its, Ras.cks, Bool.true_and]
  exact ⟨trivial, by omega⟩

def body35 : St → Kont → Prop := execC (E0 g7 noLoop) (callN (E0 g7 noLoop) 1) 35 Try.f35.ntmps (codeL Try.f35 13)

theorem loop35 (K : Kont) : ∀ (j : Nat) (r q : Ras) (z c : Int), r.valid = true → j ≤ 1000000000 → 0 ≤ c → c + 3 * j ≤ 4611686018427387904 →
    K (Exit.exit 0) (st35 (Ras.its (3 * j) r) q 0 z (c + Ras.cks (3 * j) r)) → ∃ m, roundsN keep35 2 body35 K m (st35 r q j z c)
  | 0, r, q, z, c, hv, h1, c0, c1, k => by
    refine ⟨1, ?_⟩
    rw [roundsN_succ]; unfold body35; rw [tl35]
    refine br_in (fun a => ?_) (fun a => ?_)
    · simp at a
    · have k' := k
      simp [Ras.its, Ras.cks] at k'
      exact k'
  | j + 1, r, q, z, c, hv, h1, c0, c1, k => by
    obtain ⟨t1, t2⟩ := tick_its hv
    have hc := cks_le 3 r
    have e : 3 * (j + 1) = 3 + 3 * j := by omega
    rw [e, its_add, cks_add, ← Int.add_assoc] at k
    obtain ⟨m, hm⟩ := loop35 K j (Ras.its 3 r) q z (c + Ras.cks 3 r) (its_valid 3 hv) (by omega) (by omega) (by omega) k
    refine ⟨m + 1, ?_⟩
    rw [roundsN_succ]; unfold body35; rw [tl35]
    refine br_in (fun a => ?_) (fun a => ?_)
    · rw [t1, t2, IntWalk.i64_in (((j + 1 : Nat) : Int) - 1) (by omega), IntWalk.i64_in (c + Ras.cks 3 r) (by omega)]
      have e2 : ((j + 1 : Nat) : Int) - 1 = (j : Int) := by omega
      rw [e2]
      exact ⟨⟨hv⟩, hm⟩
    · exact absurd (of_decide_eq_false a) (by omega)

def ok35 (r : Ras) (n c : Int) : Prop := r.valid = true ∧ 0 ≤ n ∧ n ≤ 1000000000 ∧ 0 ≤ c ∧ c + 3 * n ≤ 4611686018427387904
def pt35 (s : St) (K : Kont) : Prop := match s with
  | ⟨[(1, .i .i64 n), (2, .ptr 0 []), (4, .ptr 1 []), (5, .i .i64 z), (8, .i .i64 c)], [x, y]⟩ => (match rasOf x, rasOf y with
    | some r, some q => Chk (ok35 r n c) ∧ K (Exit.exit 0) (st35 (Ras.its (3 * n.toNat) r) q 0 z (c + Ras.cks (3 * n.toNat) r))
    | _, _ => False)
  | _ => False
def l35 : LCon := ⟨keep35, pt35⟩
def L35 : List (Nat × Nat × LCon) := [(35, 13, l35)]
theorem in35 (gam : List (Nat × Con)) (loop : List (Nat × Nat × LCon)) : LoopIn (E0 gam loop) (35, 13, l35) := by
  refine loop_in g7_ok 1 Try.func35 (by kernel_rfl) fun s K hp => ?_
  change pt35 s K at hp
  unfold pt35 at hp
  split at hp
  · rename_i n z c x y
    split at hp
    · rename_i r q hr hq
      obtain ⟨⟨hv, h0, h1, c0, c1⟩, k1⟩ := hp
      rw [rasOf_some hr, rasOf_some hq]
      have e : ((n.toNat : Nat) : Int) = n := by omega
      have := loop35 K n.toNat r q z c hv (by omega) c0 (by omega) k1
      rw [e] at this
      exact this
    · exact hp.elim
  · exact hp.elim
theorem L35_ok (gam : List (Nat × Con)) : LoopsOK (E0 gam L35) := loops_ok rfl ⟨in35 _ _, trivial⟩
end Go.Sx
