/- SxR13: runs: its loop's contract. -/
import Derived.Test.YtmgaphghjhbhhaaSxR12
namespace Go.Sx
open Go.Proofs
set_option linter.unusedVariables false
set_option linter.unusedSimpArgs false

theorem roundsN_succ (keep : List Tmp) (m : Nat) (body : St → Kont → Prop) (K : Kont) (n : Nat) (s : St) :
    roundsN keep m body K (n + 1) s = body s (oneK keep m (roundsN keep m body K n) K) := by
  simp only [roundsN]
  congr 1

theorem inFrame_left {r : Ras} (h : r.valid = true) {n : Int} (h0 : 0 ≤ n) (h1 : n < r.left) : inFrame r (r.pl + n) := by
  have hp : 0 ≤ r.pl ∧ r.pl ≤ 89341 := pl_range h
  unfold inFrame
  unfold Ras.left at h1
  split at h1
  · exact ⟨by omega, .inl (by omega)⟩
  · rename_i hc
    refine ⟨by omega, ?_⟩
    by_cases c : r.pl + n = 89341
    · refine .inr ⟨c, ?_⟩
      by_cases d : r.pl = 89341
      · exact .inl d
      · exact .inr fun k => hc ⟨by omega, k.1, k.2⟩
    · exact .inl (by omega)

/-- What a stretch within a frame does. -/
theorem its_skip {r : Ras} (h : r.valid = true) {n : Int} (h0 : 0 ≤ n) (h1 : n < r.left) : Ras.its n.toNat r = r.jump (r.pl + n) ∧ Ras.cks n.toNat r = r.skN n ∧ okSkip r n := by
  have hf := inFrame_left h h0 h1
  have hl := left_range h
  have e : ((n.toNat : Nat) : Int) = n := by omega
  have := its_jump h n.toNat (by rw [e]; exact hf)
  rw [e] at this
  refine ⟨this.1, this.2, h, h0, ?_⟩
  unfold inFrame at hf
  omega

/-- .. and its last dot. -/
theorem its_turn {r : Ras} (h : r.valid = true) : (r.jump (r.pl + (r.left - 1))).dotC = false ∧ (r.jump (r.pl + (r.left - 1))).dotR = Ras.its r.left.toNat r ∧ Ras.cks r.left.toNat r = r.skN (r.left - 1) := by
  have hl := left_range h
  obtain ⟨s1, s2, s3⟩ := its_skip h (n := r.left - 1) (by omega) (by omega)
  have hv : (r.jump (r.pl + (r.left - 1))).valid = true := by rw [← s1]; exact its_valid _ h
  have hend : (r.pl + (r.left - 1) = 89341) ∨ (r.pl + (r.left - 1) = 89340 ∧ r.odd = true ∧ r.draw = true) := by
    unfold Ras.left
    split
    · rename_i hc; exact .inr ⟨by omega, hc.2.1, hc.2.2⟩
    · exact .inl (by omega)
  obtain ⟨j1, j2⟩ := jump_end h (q := r.pl + (r.left - 1)) (by omega) hend
  have e : r.left.toNat = (r.left - 1).toNat + 1 := by omega
  refine ⟨by unfold Ras.dotC; rw [j2]; simp, ?_, ?_⟩
  · unfold Ras.dotR; rw [if_pos hv, e, its_succ, s1]
  · rw [e, cks_succ, s1, j2, s2]; simp [nat01]

theorem left_len {r : Ras} (h : r.valid = true) : (r.len - r.pl ≤ 0 → r.left = 89342 - r.pl) ∧ (¬ (r.len - r.pl ≤ 0) → r.left = r.len - r.pl) := by
  have hp := pl_range h
  unfold Ras.left Ras.len
  by_cases c : r.odd = true ∧ r.draw = true
  · rw [if_pos c]
    by_cases d : r.pl ≤ 89340
    · rw [if_pos ⟨d, c.1, c.2⟩]; exact ⟨fun k => by omega, fun k => by omega⟩
    · rw [if_neg (fun k => d k.1)]; exact ⟨fun k => by omega, fun k => by omega⟩
  · rw [if_neg c, if_neg (fun k => c k.2)]; exact ⟨fun k => by omega, fun k => by omega⟩

def body50 : St → Kont → Prop := execC (E0 g6 noLoop) (callN (E0 g6 noLoop) 1) 50 Try.f50.ntmps (codeL Try.f50 2)

/-- One round. -/
theorem round50 (r q : Ras) (n z c : Int) (N : St → Prop) (X : Kont) (hv : r.valid = true) (h0 : 0 ≤ n) (h1 : n ≤ 1000000000) (c0 : 0 ≤ c) (c1 : c + n ≤ 2000000000)
    (hx : n = 0 → X (Exit.exit 0) (st50 r q n z c)) (hr : 0 < n → n < r.left → X Exit.ret (st50 r (Ras.its n.toNat r) n (c + Ras.cks n.toNat r) c))
    (hn : 0 < n → r.left ≤ n → N (st50 (Ras.its r.left.toNat r) q (n - r.left) z (c + Ras.cks r.left.toNat r))) : body50 (st50 r q n z c) (oneK keep50 2 N X) := by
  unfold body50
  rw [tl50]
  have hp := pl_range hv
  have hl := left_range hv
  obtain ⟨l1, l2⟩ := left_len hv
  obtain ⟨u1, u2, u3⟩ := its_turn hv
  have hlen : 89341 ≤ r.len ∧ r.len ≤ 89342 := by unfold Ras.len; split <;> omega
  have hck := cks_le r.left.toNat r
  rw [IntWalk.i64_in (r.len - r.pl) (by omega), IntWalk.i64_in (89342 - r.pl) (by omega)]
  refine br_in (fun a => ?_) (fun a => ?_) <;> simp at a
  · refine ⟨trivial, ⟨hv⟩, ?_⟩
    have gen : ∀ L : Int, L = r.left →
        br (decide (n < L)) (Chk (okSkip r n) ∧ X Exit.ret (st50 r (r.jump (r.pl + n)) n (IntKind.i64.wrap (c + r.skN n)) c))
          (Chk (okSkip r (IntKind.i64.wrap (L - 1))) ∧ True ∧ br (r.jump (r.pl + IntKind.i64.wrap (L - 1))).dotC
            (N (st50 (r.jump (r.pl + IntKind.i64.wrap (L - 1))).dotR q (IntKind.i64.wrap (n - L)) z (IntKind.i64.wrap (IntKind.i64.wrap (c + r.skN (IntKind.i64.wrap (L - 1))) + 1))))
            (N (st50 (r.jump (r.pl + IntKind.i64.wrap (L - 1))).dotR q (IntKind.i64.wrap (n - L)) z (IntKind.i64.wrap (c + r.skN (IntKind.i64.wrap (L - 1))))))) := by
      rintro L rfl
      refine br_in (fun b => ?_) (fun b => ?_) <;> simp at b
      · obtain ⟨s1, s2, s3⟩ := its_skip hv h0 b
        have hc := cks_le n.toNat r
        have := hr a b
        rw [s1, s2] at this
        rw [IntWalk.i64_in (c + r.skN n) (by omega)]
        exact ⟨⟨s3⟩, this⟩
      · rw [IntWalk.i64_in (r.left - 1) (by omega), IntWalk.i64_in (n - r.left) (by omega)]
        obtain ⟨_, _, s3⟩ := its_skip hv (n := r.left - 1) (by omega) (by omega)
        refine ⟨⟨s3⟩, trivial, ?_⟩
        rw [u1, u2, ← u3, IntWalk.i64_in (c + Ras.cks r.left.toNat r) (by omega)]
        exact hn a b
    refine br_in (fun b => ?_) (fun b => ?_) <;> simp at b
    · exact ⟨⟨hv⟩, gen _ (l1 (by omega)).symm⟩
    · exact gen _ (l2 (by omega)).symm
  · exact hx (by omega)

theorem loop50 (K : Kont) : ∀ (j : Nat) (r q : Ras) (n z c : Int), n < j → r.valid = true → 0 ≤ n → n ≤ 1000000000 → 0 ≤ c → c + n ≤ 2000000000 →
    K (Exit.exit 0) (st50 (Ras.its n.toNat r) q 0 z (c + Ras.cks n.toNat r)) → (∀ r' n' c', K Exit.ret (st50 r' (Ras.its n.toNat r) n' (c + Ras.cks n.toNat r) c')) →
    ∃ m, roundsN keep50 2 body50 K m (st50 r q n z c)
  | 0, r, q, n, z, c, hj, hv, h0, h1, c0, c1, k1, k2 => by omega
  | j + 1, r, q, n, z, c, hj, hv, h0, h1, c0, c1, k1, k2 => by
    have hl := left_range hv
    by_cases a : 0 < n ∧ r.left ≤ n
    · have e : n.toNat = r.left.toNat + (n - r.left).toNat := by omega
      have hck := cks_le r.left.toNat r
      rw [e, its_add, cks_add, ← Int.add_assoc] at k1
      have k2' : ∀ r' n' c', K Exit.ret (st50 r' (Ras.its (n - r.left).toNat (Ras.its r.left.toNat r)) n' (c + Ras.cks r.left.toNat r + Ras.cks (n - r.left).toNat (Ras.its r.left.toNat r)) c') := by
        intro r' n' c'
        have := k2 r' n' c'
        rw [e, its_add, cks_add, ← Int.add_assoc] at this
        exact this
      obtain ⟨m, hm⟩ := loop50 K j (Ras.its r.left.toNat r) q (n - r.left) z (c + Ras.cks r.left.toNat r) (by omega) (its_valid _ hv) (by omega) (by omega) (by omega) (by omega) k1 k2'
      refine ⟨m + 1, ?_⟩
      rw [roundsN_succ]
      exact round50 r q n z c _ K hv h0 h1 c0 c1 (fun k => by omega) (fun _ k => by omega) (fun _ _ => hm)
    · refine ⟨1, ?_⟩
      rw [roundsN_succ]
      refine round50 r q n z c _ K hv h0 h1 c0 c1 (fun k => ?_) (fun _ k => k2 r n c) (fun k1 k2 => (a ⟨k1, k2⟩).elim)
      subst k
      simpa [Ras.its, Ras.cks] using k1

def okRuns (r : Ras) (n c : Int) : Prop := r.valid = true ∧ 0 ≤ n ∧ n ≤ 1000000000 ∧ 0 ≤ c ∧ c + n ≤ 2000000000
/-- The loop's contract. -/
def pt50 (s : St) (K : Kont) : Prop := match s with
  | ⟨[(1, .i .i64 n), (2, .ptr 0 []), (4, .ptr 1 []), (5, .i .i64 z), (6, .i .i64 c)], [x, y]⟩ => (match rasOf x, rasOf y with
    | some r, some q => Chk (okRuns r n c) ∧ K (Exit.exit 0) (st50 (Ras.its n.toNat r) q 0 z (c + Ras.cks n.toNat r)) ∧ ∀ (r' : Ras) (n' c' : Int), K Exit.ret (st50 r' (Ras.its n.toNat r) n' (c + Ras.cks n.toNat r) c')
    | _, _ => False)
  | _ => False
def l50 : LCon := ⟨keep50, pt50⟩
def L50 : List (Nat × Nat × LCon) := [(50, 2, l50)]

theorem g6_ok : GamOK (E0 g6 noLoop) := gam_ok rfl ⟨con56.of, con41.of, con47.of, con23.of, trivial⟩

theorem LoopSem.of {E E' : Env} (hP : E.P = E'.P) (hg : E.glob = E'.glob) {nt : Nat} {c : Code} {l : LCon} (h : LoopSem E nt c l) : LoopSem E' nt c l := by
  cases E; cases E'; subst hP; subst hg; exact h

/-- A loop's contract out of its rounds, for the raster's tables. -/
theorem loop_in {gam gam' : List (Nat × Con)} {loop : List (Nat × Nat × LCon)} (hg : GamOK (E0 gam noLoop)) (k : Nat) {f id : Nat} {fn : Func} (hfn : Try.prog.funcs[f]? = some fn) (ho : oneL fn id = true) {l : LCon}
    (h : ∀ s K, l.pt s K → ∃ n, roundsN l.keep s.mem.length (execC (E0 gam noLoop) (callN (E0 gam noLoop) k) f fn.ntmps (codeL fn id)) K n s) : LoopIn (E0 gam' loop) (f, id, l) := by
  refine ⟨fn, hfn, ho, LoopSem.of (E := E0 gam noLoop) rfl rfl (loop_sem (execC_sound (E0_ok _ _) hg (callN_sound (E0_ok _ _) hg (noLoops _) k) _ ?_) h)⟩
  intro x hx l e
  simp [E0, noLoop, lookL2] at e

theorem in50 (gam : List (Nat × Con)) (loop : List (Nat × Nat × LCon)) : LoopIn (E0 gam loop) (50, 2, l50) := by
  refine loop_in g6_ok 1 Try.func50 (by kernel_rfl) fun s K hp => ?_
  change pt50 s K at hp
  unfold pt50 at hp
  split at hp
  · rename_i n z c x y
    split at hp
    · rename_i r q hr hq
      obtain ⟨⟨hv, h0, h1, c0, c1⟩, k1, k2⟩ := hp
      rw [rasOf_some hr, rasOf_some hq]
      exact loop50 K (n.toNat + 1) r q n z c (by omega) hv h0 h1 c0 c1 k1 k2
    · exact hp.elim
  · exact hp.elim
theorem L50_ok (gam : List (Nat × Con)) : LoopsOK (E0 gam L50) := loops_ok rfl ⟨in50 _ _, trivial⟩
end Go.Sx
