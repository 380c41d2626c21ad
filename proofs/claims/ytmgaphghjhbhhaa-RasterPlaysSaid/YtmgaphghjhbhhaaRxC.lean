/-
  SxM6: where the k-th scanline clock falls: plain law.
  SxR30: After: one round of both loops.
  SxR31: After: the loops' contracts.
  SxR32: After: trees.
  SxR33: After: contracts; Nexts, Exact: trees.
  SxM7: any two drawn frames' dots hold 482 clocks; a cycle holds one at most: plain laws.
  SxR34: Nexts, Exact return true.
-/
import Derived.Test.YtmgaphghjhbhhaaRxB
namespace Go.Sx
open Go.Proofs
set_option linter.unusedVariables false
set_option linter.unusedSimpArgs false

/-- The place of a frame's i-th scanline clock. -/
def nthP (i : Int) : Int := if i ≤ 240 then (i - 1) * 341 + 260 else 89261

theorem nthP_range {i : Int} (h1 : 1 ≤ i) (h2 : i ≤ 241) : 260 ≤ nthP i ∧ nthP i ≤ 89261 := by
  unfold nthP; split <;> omega
theorem nthP_struck {i : Int} (h1 : 1 ≤ i) (h2 : i ≤ 241) : struck (nthP i) = i ∧ struck (nthP i - 1) = i - 1 := by
  unfold nthP struck
  constructor <;> (repeat' split) <;> omega
theorem nthP_gt {i p : Int} (h1 : 1 ≤ i) (h2 : i ≤ 241) (h : struck p < i) : p < nthP i := by
  unfold nthP
  unfold struck at h
  (repeat' split at h) <;> (repeat' split) <;> omega

theorem cks_mono {m n : Nat} (r : Ras) (h : m ≤ n) : Ras.cks m r ≤ Ras.cks n r := by
  have e : n = m + (n - m) := by omega
  rw [e, cks_add]
  have := cks_le (n - m) (Ras.its m r)
  omega

/-- Within the frame. -/
theorem nth_in {r : Ras} (h : r.valid = true) (hw : r.draw = true) {i : Int} (h2 : i ≤ 241) (hs : struck r.pl < i) :
    1 ≤ nthP i - r.pl ∧ Ras.cks (nthP i - r.pl).toNat r = i - struck r.pl ∧ Ras.cks ((nthP i - r.pl).toNat - 1) r = i - 1 - struck r.pl := by
  have hp := pl_range h
  have hr := struck_range r.pl
  have hn := nthP_range (by omega : 1 ≤ i) h2
  have hg := nthP_gt (by omega : 1 ≤ i) h2 hs
  obtain ⟨s1, s2⟩ := nthP_struck (by omega : 1 ≤ i) h2
  have a := its_jump h (nthP i - r.pl).toNat (by unfold inFrame; omega)
  have b := its_jump h ((nthP i - r.pl).toNat - 1) (by unfold inFrame; omega)
  have e1 : r.pl + (((nthP i - r.pl).toNat : Nat) : Int) = nthP i := by omega
  have e2 : r.pl + (((nthP i - r.pl).toNat - 1 : Nat) : Int) = nthP i - 1 := by omega
  rw [e1] at a
  rw [e2] at b
  rw [a.2, b.2, if_pos hw, if_pos hw, s1, s2]
  omega

/-- Dots until the k-th clock, of at most two frames' clocks, is struck. -/
def Ras.aftD (r : Ras) (k : Int) : Int :=
  if k ≤ 241 - struck r.pl then nthP (struck r.pl + k) - r.pl
  else if k - (241 - struck r.pl) ≤ 241 then r.left + nthP (k - (241 - struck r.pl))
  else r.left + (if r.odd = true then 89342 else 89341) + nthP (k - (241 - struck r.pl) - 241)

theorem top_nth (r : Ras) (o : Bool) (hw : r.draw = true) {i : Int} (h1 : 1 ≤ i) (h2 : i ≤ 241) :
    Ras.cks (nthP i).toNat (r.top o) = i ∧ Ras.cks ((nthP i).toNat - 1) (r.top o) = i - 1 := by
  have z : struck 0 = 0 := rfl
  have := nth_in (top_valid r o) (i := i) hw h2 (by rw [top_pl, z]; omega)
  rw [top_pl, z] at this
  simpa using this.2

theorem aftD_spec {r : Ras} (h : r.valid = true) (hw : r.draw = true) {k : Int} (h1 : 1 ≤ k) (h2 : k ≤ 482) :
    1 ≤ r.aftD k ∧ r.aftD k ≤ 300000 ∧ Ras.cks (r.aftD k).toNat r = k ∧ Ras.cks ((r.aftD k).toNat - 1) r = k - 1 := by
  have hp := pl_range h
  have hr := struck_range r.pl
  have hl := left_range h
  obtain ⟨l1, l2⟩ := its_left h
  rw [if_pos hw] at l2
  unfold Ras.aftD
  by_cases c : k ≤ 241 - struck r.pl
  · rw [if_pos c]
    obtain ⟨a1, a2, a3⟩ := nth_in h hw (i := struck r.pl + k) (by omega) (by omega)
    have := nthP_range (i := struck r.pl + k) (by omega) (by omega)
    exact ⟨a1, by omega, by omega, by omega⟩
  · rw [if_neg c]
    by_cases d : k - (241 - struck r.pl) ≤ 241
    · rw [if_pos d]
      obtain ⟨a2, a3⟩ := top_nth r (!r.odd) hw (i := k - (241 - struck r.pl)) (by omega) d
      have hn := nthP_range (i := k - (241 - struck r.pl)) (by omega) d
      have e1 : (r.left + nthP (k - (241 - struck r.pl))).toNat = r.left.toNat + (nthP (k - (241 - struck r.pl))).toNat := by omega
      have e2 : (r.left + nthP (k - (241 - struck r.pl))).toNat - 1 = r.left.toNat + ((nthP (k - (241 - struck r.pl))).toNat - 1) := by omega
      rw [e2, e1, cks_add, cks_add, l1, l2, a2, a3]
      omega
    · rw [if_neg d]
      obtain ⟨f1, f2⟩ := its_frame r (!r.odd)
      rw [if_pos hw] at f2
      have hq : (if (!r.odd) = true ∧ r.draw = true then 89341 else 89342 : Nat) = (if r.odd = true then (89342 : Int) else 89341).toNat := by
        rw [hw]; cases r.odd <;> rfl
      rw [hq] at f1 f2
      have hq2 : 0 ≤ (if r.odd = true then (89342 : Int) else 89341) ∧ (if r.odd = true then (89342 : Int) else 89341) ≤ 89342 := by split <;> omega
      generalize (if r.odd = true then (89342 : Int) else 89341) = g at *
      obtain ⟨a2, a3⟩ := top_nth r (!(!r.odd)) hw (i := k - (241 - struck r.pl) - 241) (by omega) (by omega)
      have hn := nthP_range (i := k - (241 - struck r.pl) - 241) (by omega) (by omega)
      have e1 : (r.left + g + nthP (k - (241 - struck r.pl) - 241)).toNat = r.left.toNat + (g.toNat + (nthP (k - (241 - struck r.pl) - 241)).toNat) := by omega
      have e2 : (r.left + g + nthP (k - (241 - struck r.pl) - 241)).toNat - 1 = r.left.toNat + (g.toNat + ((nthP (k - (241 - struck r.pl) - 241)).toNat - 1)) := by omega
      rw [e2, e1, cks_add, cks_add, cks_add, cks_add, l1, l2, f1, f2, a2, a3]
      omega

theorem aftD_iff {r : Ras} (h : r.valid = true) (hw : r.draw = true) {k : Int} (h1 : 1 ≤ k) (h2 : k ≤ 482) (m : Nat) : k ≤ Ras.cks m r ↔ r.aftD k ≤ m := by
  obtain ⟨a, b, c, d⟩ := aftD_spec h hw h1 h2
  constructor
  · intro hk
    refine Classical.byContradiction fun hn => ?_
    have := cks_mono r (by omega : m ≤ (r.aftD k).toNat - 1)
    omega
  · intro hk
    have := cks_mono r (by omega : (r.aftD k).toNat ≤ m)
    omega

/-- Cycles until k clocks have fallen. -/
def Ras.aftN (r : Ras) (k : Int) : Int :=
  if r.valid = true then (if r.draw = true ∧ 1 ≤ k ∧ k ≤ 1099511627776 then (k - 1) / 482 * 59561 + (r.aftD ((k - 1) % 482 + 1) + 2) / 3 else never) else 0
end Go.Sx

namespace Go.Sx
open Go.Proofs
set_option linter.unusedVariables false
set_option linter.unusedSimpArgs false
def st32 (k z d p : Int) (odd sk : Bool) (r : Ras) : St := ⟨[(1, .i .i64 k), (4, .i .i64 z), (6, .i .i64 d), (7, .i .i64 p), (8, .b odd), (9, .b sk)], [r.sv]⟩
def keep32 : List Tmp := [1, 4, 6, 7, 8, 9]
def st33 (k z q n : Int) (r : Ras) : St := ⟨[(1, .i .i64 k), (2, .ptr 0 []), (4, .i .i64 z), (6, .i .i64 q), (7, .i .i64 n)], [r.sv]⟩
def keep33 : List Tmp := [1, 2, 4, 6, 7]

theorem tl32 (k z d p : Int) (odd sk : Bool) (r : Ras) (N : St → Prop) (X : Kont) : (execC (E0 g9 noLoop) (callN (E0 g9 noLoop) 1) 32 Try.f32.ntmps (codeL Try.f32 11) (st32 k z d p odd sk r) (oneK keep32 1 N X)) = (
  Chk (okPlace p) ∧
  br (decide (k ≤ IntKind.i64.wrap (241 - struck p)))
    (Chk (okPlace p) ∧
      br (decide (IntKind.i64.wrap (struck p + k) ≤ 240))
        (X Exit.ret (St.mk [(1, SV.i IntKind.i64 k), (4, SV.i IntKind.i64 (IntKind.i64.wrap ((IntKind.i64.wrap (IntKind.i64.wrap (IntKind.i64.wrap (d + IntKind.i64.wrap (IntKind.i64.wrap (IntKind.i64.wrap (IntKind.i64.wrap (struck p + k) - 1) * 341) + 260)) - p) + 2)).tdiv 3))), (6, SV.i IntKind.i64 d), (7, SV.i IntKind.i64 p), (8, SV.b odd), (9, SV.b sk)] [r.sv]))
        (X Exit.ret (St.mk [(1, SV.i IntKind.i64 k), (4, SV.i IntKind.i64 (IntKind.i64.wrap ((IntKind.i64.wrap (IntKind.i64.wrap (IntKind.i64.wrap (d + 89261) - p) + 2)).tdiv 3))), (6, SV.i IntKind.i64 d), (7, SV.i IntKind.i64 p), (8, SV.b odd), (9, SV.b sk)] [r.sv])))
    (br (odd && !sk) (N (St.mk [(1, SV.i IntKind.i64 (IntKind.i64.wrap (k - IntKind.i64.wrap (241 - struck p)))), (4, SV.i IntKind.i64 z), (6, SV.i IntKind.i64 (IntKind.i64.wrap (d + IntKind.i64.wrap (IntKind.i64.wrap (89342 - 1) - p)))), (7, SV.i IntKind.i64 0), (8, SV.b !odd), (9, SV.b false)] [r.sv]))
      (N (St.mk [(1, SV.i IntKind.i64 (IntKind.i64.wrap (k - IntKind.i64.wrap (241 - struck p)))), (4, SV.i IntKind.i64 z), (6, SV.i IntKind.i64 (IntKind.i64.wrap (d + IntKind.i64.wrap (89342 - p)))), (7, SV.i IntKind.i64 0), (8, SV.b !odd), (9, SV.b false)] [r.sv])))) := by kernel_rfl
theorem tl33 (k z q n : Int) (r : Ras) (N : St → Prop) (X : Kont) : (execC (E0 g9 noLoop) (callN (E0 g9 noLoop) 1) 33 Try.f33.ntmps (codeL Try.f33 9) (st33 k z q n r) (oneK keep33 1 N X)) = (
  br (decide (0 < k)) (Chk (r.valid = true) ∧ N (St.mk [(1, SV.i IntKind.i64 (IntKind.i64.wrap (k - r.tickN))), (2, SV.ptr 0 []), (4, SV.i IntKind.i64 z), (6, SV.i IntKind.i64 q), (7, SV.i IntKind.i64 (IntKind.i64.wrap (n + 1)))] [r.tickR.sv])) (X (Exit.exit 0) (St.mk [(1, SV.i IntKind.i64 k), (2, SV.ptr 0 []), (4, SV.i IntKind.i64 z), (6, SV.i IntKind.i64 q), (7, SV.i IntKind.i64 n)] [r.sv]))) := by kernel_rfl

end Go.Sx

namespace Go.Sx
open Go.Proofs
set_option linter.unusedVariables false
set_option linter.unusedSimpArgs false

/-! The document's. -/
def Ras.aftJ (r : Ras) (k : Int) : Nat := ((r.aftD k + 2) / 3).toNat
def body33 : St → Kont → Prop := execC (E0 g9 noLoop) (callN (E0 g9 noLoop) 1) 33 Try.f33.ntmps (codeL Try.f33 9)

theorem loop33 (K : Kont) (r : Ras) (k z q : Int) (h : r.valid = true) (hw : r.draw = true) (h1 : 1 ≤ k) (h2 : k ≤ 482)
    (hk : K (Exit.exit 0) (st33 (k - Ras.cks (3 * r.aftJ k) r) z q (r.aftJ k) (Ras.its (3 * r.aftJ k) r))) :
    ∀ (i j : Nat), j + i = r.aftJ k → ∃ m, roundsN keep33 1 body33 K m (st33 (k - Ras.cks (3 * j) r) z q j (Ras.its (3 * j) r))
  | 0, j, e => by
    obtain ⟨a, b, c, d⟩ := aftD_spec h hw h1 h2
    have hJ : r.aftJ k = ((r.aftD k + 2) / 3).toNat := rfl
    refine ⟨1, ?_⟩
    rw [roundsN_succ]; unfold body33; rw [tl33]
    have := (aftD_iff h hw h1 h2 (3 * j)).2 (by omega)
    refine br_in (fun a => ?_) (fun a => ?_)
    · simp at a; omega
    · have e' : j = r.aftJ k := by omega
      rw [e']; exact hk
  | i + 1, j, e => by
    obtain ⟨a, b, c, d⟩ := aftD_spec h hw h1 h2
    have hJ : r.aftJ k = ((r.aftD k + 2) / 3).toNat := rfl
    obtain ⟨m, hm⟩ := loop33 K r k z q h hw h1 h2 hk i (j + 1) (by omega)
    refine ⟨m + 1, ?_⟩
    rw [roundsN_succ]; unfold body33; rw [tl33]
    have hn : ¬ k ≤ Ras.cks (3 * j) r := fun x => by
      have := (aftD_iff h hw h1 h2 (3 * j)).1 x
      omega
    have hv := its_valid (3 * j) h
    have hc := cks_le (3 * j) r
    have ht := tickN_le (Ras.its (3 * j) r)
    refine br_in (fun a => ?_) (fun a => ?_)
    · have e3 : 3 * (j + 1) = 3 * j + 3 := by omega
      rw [e3, cks_add, its_add, ← (tick_its hv).1, ← (tick_its hv).2] at hm
      have e4 : k - (Ras.cks (3 * j) r + (Ras.its (3 * j) r).tickN) = k - Ras.cks (3 * j) r - (Ras.its (3 * j) r).tickN := by omega
      rw [e4] at hm
      rw [IntWalk.i64_in ((j : Int) + 1) (by omega), IntWalk.i64_in (k - Ras.cks (3 * j) r - (Ras.its (3 * j) r).tickN) (by omega)]
      exact ⟨⟨hv⟩, hm⟩
    · simp at a; omega

def ok33 (r : Ras) (k n : Int) : Prop := r.valid = true ∧ r.draw = true ∧ 1 ≤ k ∧ k ≤ 482 ∧ n = 0
def pt33 (s : St) (K : Kont) : Prop := match s with
  | ⟨[(1, .i .i64 k), (2, .ptr 0 []), (4, .i .i64 z), (6, .i .i64 q), (7, .i .i64 n)], [x]⟩ => (match rasOf x with
    | some r => Chk (ok33 r k n) ∧ K (Exit.exit 0) (st33 (k - Ras.cks (3 * r.aftJ k) r) z q (r.aftJ k) (Ras.its (3 * r.aftJ k) r))
    | none => False)
  | _ => False
def l33 : LCon := ⟨keep33, pt33⟩
def L33 : List (Nat × Nat × LCon) := [(33, 9, l33)]
theorem in33 (gam : List (Nat × Con)) (loop : List (Nat × Nat × LCon)) : LoopIn (E0 gam loop) (33, 9, l33) := by
  refine loop_in g9_ok 1 Try.func33 (by kernel_rfl) fun s K hp => ?_
  change pt33 s K at hp
  unfold pt33 at hp
  split at hp
  · rename_i k z q n x
    split at hp
    · rename_i r hr
      obtain ⟨⟨hv, hw, h1, h2, rfl⟩, k1⟩ := hp
      rw [rasOf_some hr]
      have := loop33 K r k z q hv hw h1 h2 k1 (r.aftJ k) 0 (by omega)
      have e : k - Ras.cks (3 * 0) r = k := by simp [Ras.cks]
      rw [e] at this
      exact this
    · exact hp.elim
  · exact hp.elim
theorem L33_ok (gam : List (Nat × Con)) : LoopsOK (E0 gam L33) := loops_ok rfl ⟨in33 _ _, trivial⟩

/-! The raster's own. -/
def body32 : St → Kont → Prop := execC (E0 g9 noLoop) (callN (E0 g9 noLoop) 1) 32 Try.f32.ntmps (codeL Try.f32 11)
def ok32 (r : Ras) (k d p : Int) (odd sk : Bool) : Prop := r.valid = true ∧ r.draw = true ∧ 1 ≤ k ∧ k ≤ 482 ∧ 0 ≤ d ∧ d ≤ 1000000000000000 ∧ p = r.pl ∧ odd = r.odd ∧ sk = (r.pl == 89341 && r.odd)
def Ras.aftH (r : Ras) : Int := 241 - struck r.pl
/-- What the slots hold at the end. -/
def fK (r : Ras) (k : Int) : Int := if k ≤ r.aftH then k else if k - r.aftH ≤ 241 then k - r.aftH else k - r.aftH - 241
def fD (r : Ras) (k d : Int) : Int := if k ≤ r.aftH then d else if k - r.aftH ≤ 241 then d + r.left else d + r.left + (if r.odd = true then 89342 else 89341)
def fP (r : Ras) (k : Int) : Int := if k ≤ r.aftH then r.pl else 0
def fO (r : Ras) (k : Int) : Bool := if k ≤ r.aftH then r.odd else if k - r.aftH ≤ 241 then !r.odd else r.odd
def fS (r : Ras) (k : Int) : Bool := if k ≤ r.aftH then (r.pl == 89341 && r.odd) else false
def fR (r : Ras) (k d : Int) : Int := (d + r.aftD k + 2) / 3

theorem round_end (K : Kont) (r : Ras) (k z d p : Int) (odd sk : Bool) (hp : 0 ≤ p) (hp2 : p ≤ 89341) (h1 : 1 ≤ k) (h2 : struck p + k ≤ 241) (h3 : 0 ≤ d) (h4 : d ≤ 2000000000000000)
    (hk : K Exit.ret (st32 k ((d + (nthP (struck p + k) - p) + 2) / 3) d p odd sk r)) (N : Nat) : roundsN keep32 1 body32 K (N + 1) (st32 k z d p odd sk r) := by
  have hs := struck_range p
  have hn := nthP_range (i := struck p + k) (by omega) (by omega)
  have hg := nthP_gt (i := struck p + k) (p := p) (by omega) (by omega) (by omega)
  rw [roundsN_succ]; unfold body32; rw [tl32]
  have hok : okPlace p := by unfold okPlace; omega
  rw [IntWalk.i64_in (241 - struck p) (by omega), IntWalk.i64_in (struck p + k) (by omega)]
  have fin : ∀ e : Int, e = nthP (struck p + k) → IntKind.i64.wrap ((IntKind.i64.wrap (IntKind.i64.wrap (IntKind.i64.wrap (d + e) - p) + 2)).tdiv 3) = (d + (nthP (struck p + k) - p) + 2) / 3 := by
    rintro e rfl
    rw [IntWalk.i64_in (d + nthP (struck p + k)) (by omega), IntWalk.i64_in (d + nthP (struck p + k) - p) (by omega), IntWalk.i64_in (d + nthP (struck p + k) - p + 2) (by omega), IntWalk.i64_quo _ 3 (by omega)]
    congr 1; omega
  refine ⟨⟨hok⟩, br_in (fun a => ⟨⟨hok⟩, br_in (fun b => ?_) (fun b => ?_)⟩) (fun a => ?_)⟩
  · simp at b
    rw [IntWalk.i64_in (struck p + k - 1) (by omega), IntWalk.i64_in ((struck p + k - 1) * 341) (by omega), IntWalk.i64_in ((struck p + k - 1) * 341 + 260) (by omega),
      fin _ (by unfold nthP; rw [if_pos b])]
    exact hk
  · simp at b
    rw [fin _ (by unfold nthP; rw [if_neg (by omega)])]
    exact hk
  · simp at a; omega

theorem round_go (K : Kont) (r : Ras) (k z d p : Int) (odd sk : Bool) (hp : 0 ≤ p) (hp2 : p ≤ 89341) (h1 : k ≤ 482) (h2 : 241 - struck p < k) (h3 : 0 ≤ d) (h4 : d ≤ 2000000000000000) (N : Nat)
    (hk : roundsN keep32 1 body32 K N (st32 (k - (241 - struck p)) z (d + ((if odd = true ∧ sk = false then 89341 else 89342) - p)) 0 (!odd) false r)) : roundsN keep32 1 body32 K (N + 1) (st32 k z d p odd sk r) := by
  have hs := struck_range p
  rw [roundsN_succ]; unfold body32; rw [tl32]
  have hok : okPlace p := by unfold okPlace; omega
  rw [IntWalk.i64_in (241 - struck p) (by omega), IntWalk.i64_in (k - (241 - struck p)) (by omega)]
  refine ⟨⟨hok⟩, br_in (fun a => ?_) (fun a => br_in (fun b => ?_) (fun b => ?_))⟩
  · simp at a; omega
  · simp at b
    rw [if_pos b] at hk
    rw [IntWalk.i64_in (89342 - 1) (by omega), IntWalk.i64_in (89342 - 1 - p) (by omega), IntWalk.i64_in (d + (89342 - 1 - p)) (by omega)]
    exact hk
  · simp at b
    rw [if_neg (by intro x; have := b x.1; rw [x.2] at this; simp at this)] at hk
    rw [IntWalk.i64_in (89342 - p) (by omega), IntWalk.i64_in (d + (89342 - p)) (by omega)]
    exact hk

theorem loop32 (K : Kont) (r : Ras) (k z d : Int) (h : r.valid = true) (hw : r.draw = true) (h1 : 1 ≤ k) (h2 : k ≤ 482) (h3 : 0 ≤ d) (h4 : d ≤ 1000000000000000)
    (hk : K Exit.ret (st32 (fK r k) (fR r k d) (fD r k d) (fP r k) (fO r k) (fS r k) r)) : ∃ m, roundsN keep32 1 body32 K m (st32 k z d r.pl r.odd (r.pl == 89341 && r.odd) r) := by
  have hp := pl_range h
  have hs := struck_range r.pl
  have hl := left_range h
  have hL : (if r.odd = true ∧ (r.pl == 89341 && r.odd) = false then 89341 else 89342) - r.pl = r.left := by
    unfold Ras.left
    rw [hw]
    cases ho : r.odd
    · simp
    · simp
      by_cases c : r.pl = 89341
      · rw [if_pos c, if_neg (by omega)]
      · rw [if_neg c, if_pos (by omega)]
  have hH : r.aftH = 241 - struck r.pl := rfl
  unfold fK fR fD fP fO fS Ras.aftD at hk
  rw [hH] at hk
  by_cases c : k ≤ 241 - struck r.pl
  · simp only [if_pos c] at hk
    exact ⟨1, round_end K r k z d r.pl r.odd _ hp.1 hp.2 h1 (by omega) h3 (by omega) hk 0⟩
  · simp only [if_neg c] at hk
    by_cases e : k - (241 - struck r.pl) ≤ 241
    · simp only [if_pos e] at hk
      refine ⟨2, round_go K r k z d r.pl r.odd _ hp.1 hp.2 h2 (by omega) h3 (by omega) 1 ?_⟩
      rw [hL]
      have z0 : struck 0 = 0 := rfl
      refine round_end K r _ z (d + r.left) 0 (!r.odd) false (by omega) (by omega) (by omega) (by omega) (by omega) (by omega) ?_ 0
      have q1 : (d + r.left + (nthP (struck 0 + (k - (241 - struck r.pl))) - 0) + 2) / 3 = (d + (r.left + nthP (k - (241 - struck r.pl))) + 2) / 3 := by
        rw [z0, Int.zero_add]; omega
      rw [q1]
      exact hk
    · simp only [if_neg e] at hk
      refine ⟨3, round_go K r k z d r.pl r.odd _ hp.1 hp.2 h2 (by omega) h3 (by omega) 2 ?_⟩
      rw [hL]
      have z0 : struck 0 = 0 := rfl
      refine round_go K r _ z (d + r.left) 0 (!r.odd) false (by omega) (by omega) (by omega) (by omega) (by omega) (by omega) 1 ?_
      have g1 : (if (!r.odd) = true ∧ false = false then (89341 : Int) else 89342) - 0 = if r.odd = true then 89342 else 89341 := by cases r.odd <;> rfl
      rw [g1, z0]
      have g2 : 0 ≤ (if r.odd = true then (89342 : Int) else 89341) ∧ (if r.odd = true then (89342 : Int) else 89341) ≤ 89342 := by split <;> omega
      generalize (if r.odd = true then (89342 : Int) else 89341) = g at *
      have g3 : k - (241 - struck r.pl) - (241 - 0) = k - (241 - struck r.pl) - 241 := by omega
      rw [g3, Bool.not_not]
      refine round_end K r _ z (d + r.left + g) 0 r.odd false (by omega) (by omega) (by omega) (by omega) (by omega) (by omega) ?_ 0
      have q1 : (d + r.left + g + (nthP (struck 0 + (k - (241 - struck r.pl) - 241)) - 0) + 2) / 3 = (d + (r.left + g + nthP (k - (241 - struck r.pl) - 241)) + 2) / 3 := by
        rw [z0, Int.zero_add]; omega
      rw [q1]
      exact hk

def pt32 (s : St) (K : Kont) : Prop := match s with
  | ⟨[(1, .i .i64 k), (4, .i .i64 z), (6, .i .i64 d), (7, .i .i64 p), (8, .b odd), (9, .b sk)], [x]⟩ => (match rasOf x with
    | some r => Chk (ok32 r k d p odd sk) ∧ K Exit.ret (st32 (fK r k) (fR r k d) (fD r k d) (fP r k) (fO r k) (fS r k) r)
    | none => False)
  | _ => False
def l32 : LCon := ⟨keep32, pt32⟩
def L32 : List (Nat × Nat × LCon) := [(32, 11, l32)]
theorem in32 (gam : List (Nat × Con)) (loop : List (Nat × Nat × LCon)) : LoopIn (E0 gam loop) (32, 11, l32) := by
  refine loop_in g9_ok 1 Try.func32 (by kernel_rfl) fun s K hp => ?_
  change pt32 s K at hp
  unfold pt32 at hp
  split at hp
  · rename_i k z d p odd sk x
    split at hp
    · rename_i r hr
      obtain ⟨⟨hv, hw, h1, h2, h3, h4, rfl, rfl, rfl⟩, k1⟩ := hp
      rw [rasOf_some hr]
      exact loop32 K r k z d hv hw h1 h2 h3 h4 k1
    · exact hp.elim
  · exact hp.elim
theorem L32_ok (gam : List (Nat × Con)) : LoopsOK (E0 gam L32) := loops_ok rfl ⟨in32 _ _, trivial⟩
def cAfter : Con := .pure (preRN fun r k => i64 k) (onRN fun r k => .i .i64 (r.aftN k))
end Go.Sx

namespace Go.Sx
open Go.Proofs
set_option linter.unusedVariables false
set_option linter.unusedSimpArgs false

theorem t32 (r : Ras) (k : Int) : bodyK (E0 g9 L32) (callN (E0 g9 L32) 1) 32 Try.f32 [r.sv, .i .i64 k] [] (fun x _ => onB (x.cl 0) (x = .i .i64 (r.aftN k))) = (
  True ∧
  br (!r.valid) (SV.i IntKind.i64 0 = SV.i IntKind.i64 (r.aftN k))
    (br (!r.draw || decide (k < 1) || decide (1099511627776 < k)) (SV.i IntKind.i64 4611686018427387904 = SV.i IntKind.i64 (r.aftN k))
      (Chk (r.valid = true) ∧
        Chk (ok32 r (IntKind.i64.wrap ((IntKind.i64.wrap (k - 1)).tmod 482 + 1)) (IntKind.i64.wrap (IntKind.i64.wrap ((IntKind.i64.wrap (k - 1)).tdiv 482) * 178683)) r.pl r.odd (r.pl == 89341 && r.odd)) ∧
          SV.i IntKind.i64 (fR r (IntKind.i64.wrap ((IntKind.i64.wrap (k - 1)).tmod 482 + 1)) (IntKind.i64.wrap (IntKind.i64.wrap ((IntKind.i64.wrap (k - 1)).tdiv 482) * 178683))) = SV.i IntKind.i64 (r.aftN k)))) := by kernel_rfl
theorem t33 (r : Ras) (k : Int) : bodyK (E0 g9 L33) (callN (E0 g9 L33) 1) 33 Try.f33 [r.sv, .i .i64 k] [] (fun x _ => onB (x.cl 0) (x = .i .i64 (r.aftN k))) = (
  True ∧
  br (!r.valid) (SV.i IntKind.i64 0 = SV.i IntKind.i64 (r.aftN k))
    (br (!r.draw || decide (k < 1) || decide (1099511627776 < k)) (SV.i IntKind.i64 4611686018427387904 = SV.i IntKind.i64 (r.aftN k))
      (Chk (ok33 r (IntKind.i64.wrap (k - IntKind.i64.wrap (IntKind.i64.wrap ((IntKind.i64.wrap (k - 1)).tdiv 482) * 482))) 0) ∧ SV.i IntKind.i64 (IntKind.i64.wrap (IntKind.i64.wrap (IntKind.i64.wrap ((IntKind.i64.wrap (k - 1)).tdiv 482) * 59561) + ↑(r.aftJ (IntKind.i64.wrap (k - IntKind.i64.wrap (IntKind.i64.wrap ((IntKind.i64.wrap (k - 1)).tdiv 482) * 482)))))) = SV.i IntKind.i64 (r.aftN k)))) := by kernel_rfl

end Go.Sx

namespace Go.Sx
open Go.Proofs
set_option linter.unusedVariables false
set_option linter.unusedSimpArgs false
theorem aftN_off {r : Ras} {k : Int} (a : r.valid = true) (b : (!r.draw || decide (k < 1) || decide (1099511627776 < k)) = true) : r.aftN k = never := by
  unfold Ras.aftN
  rw [if_pos a, if_neg]
  intro x
  rw [x.1] at b; simp at b; omega
theorem aftN_on {r : Ras} {k : Int} (a : r.valid = true) (b : (!r.draw || decide (k < 1) || decide (1099511627776 < k)) = false) : r.draw = true ∧ 1 ≤ k ∧ k ≤ 1099511627776 ∧ r.aftN k = (k - 1) / 482 * 59561 + (r.aftD ((k - 1) % 482 + 1) + 2) / 3 := by
  simp at b
  have c : r.draw = true ∧ 1 ≤ k ∧ k ≤ 1099511627776 := ⟨b.1.1, by omega, by omega⟩
  refine ⟨c.1, c.2.1, c.2.2, ?_⟩
  unfold Ras.aftN
  rw [if_pos a, if_pos c]
theorem p32 (r : Ras) (k : Int) (h : i64 k) : bodyK (E0 g9 L32) (callN (E0 g9 L32) 1) 32 Try.f32 [r.sv, .i .i64 k] [] (fun x _ => onB (x.cl 0) (x = .i .i64 (r.aftN k))) := by
  rw [t32]
  refine ⟨trivial, br_in (fun a => ?_) (fun a => br_in (fun b => ?_) (fun b => ?_))⟩ <;> simp at a
  · unfold Ras.aftN; rw [a]; rfl
  · rw [aftN_off a b]; rfl
  · obtain ⟨b1, b2, b3, b4⟩ := aftN_on a b
    rw [IntWalk.i64_in (k - 1) (by omega), IntWalk.rem_in (k - 1) 482 (by omega), IntWalk.i64_in ((k - 1) % 482 + 1) (by omega), IntWalk.i64_quo (k - 1) 482 (by omega), IntWalk.i64_in ((k - 1) / 482 * 178683) (by omega), b4]
    refine ⟨⟨a⟩, ⟨a, b1, by omega, by omega, by omega, by omega, rfl, rfl, rfl⟩, ?_⟩
    unfold fR
    congr 1; omega
theorem p33 (r : Ras) (k : Int) (h : i64 k) : bodyK (E0 g9 L33) (callN (E0 g9 L33) 1) 33 Try.f33 [r.sv, .i .i64 k] [] (fun x _ => onB (x.cl 0) (x = .i .i64 (r.aftN k))) := by
  rw [t33]
  refine ⟨trivial, br_in (fun a => ?_) (fun a => br_in (fun b => ?_) (fun b => ?_))⟩ <;> simp at a
  · unfold Ras.aftN; rw [a]; rfl
  · rw [aftN_off a b]; rfl
  · obtain ⟨b1, b2, b3, b4⟩ := aftN_on a b
    have e : k - (k - 1) / 482 * 482 = (k - 1) % 482 + 1 := by omega
    obtain ⟨c1, c2, c3, c4⟩ := aftD_spec a b1 (k := (k - 1) % 482 + 1) (by omega) (by omega)
    rw [IntWalk.i64_in (k - 1) (by omega), IntWalk.i64_quo (k - 1) 482 (by omega), IntWalk.i64_in ((k - 1) / 482 * 482) (by omega), IntWalk.i64_in (k - (k - 1) / 482 * 482) (by omega), e, IntWalk.i64_in ((k - 1) / 482 * 59561) (by omega), b4]
    refine ⟨⟨a, b1, by omega, by omega, rfl⟩, ?_⟩
    have hJ : ((r.aftJ ((k - 1) % 482 + 1) : Nat) : Int) = (r.aftD ((k - 1) % 482 + 1) + 2) / 3 := by unfold Ras.aftJ; omega
    rw [hJ, IntWalk.i64_in _ (by omega)]
theorem g9M_ok : GamOK (E0 g9 L32) := gam_ok rfl ⟨con27.of, con28.of, con41.of, con47.of, con48.of, con44.of, trivial⟩
theorem g9N_ok : GamOK (E0 g9 L33) := gam_ok rfl ⟨con27.of, con28.of, con41.of, con47.of, con48.of, con44.of, trivial⟩
theorem con32 : ConOK (E0 g9 L32) 32 cAfter := conRN g9M_ok (L32_ok _) 1 Try.func32 fun r k h => p32 r k h
theorem con33 : ConOK (E0 g9 L33) 33 cAfter := conRN g9N_ok (L33_ok _) 1 Try.func33 fun r k h => p33 r k h
def gB : List (Nat × Con) := (32, cAfter) :: (33, cAfter) :: gA
theorem gB_ok : GamOK (E0 gB noLoop) :=
  gam_ok rfl ⟨con32.of, con33.of, con30.of, con31.of, con34.of, con35.of, con15.of, con16.of, con21.of, con18.of, con22.of, con17.of, con29.of, con19.of, con20.of, con36.of, con25.of, con26.of, con23.of, con24.of, con27.of, con28.of, trivial⟩

theorem t6 (r : Ras) (k : Int) : bodyK (E0 gB noLoop) (callN (E0 gB noLoop) 1) 6 Try.f6 [r.sv, .i .i64 k] [] (fun x _ => isTrue x) = (
  True ∧ True ∧ True ∧ True ∧ Chk (i64 k) ∧ Chk (i64 k) ∧ (r.up == r.up && r.nextN == r.nextN && r.aftN k == r.aftN k) = true) := by kernel_rfl
theorem t13 (r : Ras) (k : Int) : bodyK (E0 gB noLoop) (callN (E0 gB noLoop) 1) 13 Try.f13 [r.sv, .i .i64 k] [] (fun x _ => isTrue x) = (
  Chk r.fit ∧
  True ∧
    br (!r.nearR.nmi && r.nearR.nextN != 4611686018427387904) (false = true)
      (br r.nearR.nmi
        (br (decide (r.nearR.nextN < 1) || decide (4611686018427387904 ≤ r.nearR.nextN)) (false = true)
          (Chk (i64 (IntKind.i64.wrap (r.nearR.nextN - 1))) ∧
            True ∧
              True ∧
                True ∧
                  br (!!(r.nearR.advR (IntKind.i64.wrap (r.nearR.nextN - 1))).up == r.nearR.up && true)
                    (True ∧
                      br (!!(r.nearR.advR (IntKind.i64.wrap (r.nearR.nextN - 1))).up == r.nearR.up && true)
                        (True ∧
                          br (!(r.nearR.advR (IntKind.i64.wrap (r.nearR.nextN - 1))).up == r.nearR.up || (r.nearR.advR (IntKind.i64.wrap (r.nearR.nextN - 1))).tickR.up == r.nearR.up) (false = true)
                            (Chk (spanOK k 1 1073741824) ∧
                              Chk (i64 (spf k 1 1073741824)) ∧
                                Chk (i64 (IntKind.i64.wrap (1 - spf k 1 1073741824))) ∧
                                  br (r.nearR.aftN (IntKind.i64.wrap (1 - spf k 1 1073741824)) != 4611686018427387904) (false = true)
                                    (br (!r.nearR.draw) ((r.nearR.aftN (spf k 1 1073741824) == 4611686018427387904) = true)
                                      (br (decide (r.nearR.aftN (spf k 1 1073741824) < 1) || decide (4611686018427387904 ≤ r.nearR.aftN (spf k 1 1073741824))) (false = true)
                                        (Chk (i64 (IntKind.i64.wrap (r.nearR.aftN (spf k 1 1073741824) - 1))) ∧ True ∧ (IntKind.i64.wrap (r.nearR.advN (IntKind.i64.wrap (r.nearR.aftN (spf k 1 1073741824) - 1))) == IntKind.i64.wrap (spf k 1 1073741824 - 1) && (r.nearR.advR (IntKind.i64.wrap (r.nearR.aftN (spf k 1 1073741824) - 1))).tickN == 1) = true)))))
                        (br (!(r.nearR.advR (IntKind.i64.wrap (r.nearR.nextN - 1))).up == r.nearR.up || (r.nearR.advR (IntKind.i64.wrap (r.nearR.nextN - 1))).tickR.up == false) (false = true)
                          (Chk (spanOK k 1 1073741824) ∧
                            Chk (i64 (spf k 1 1073741824)) ∧
                              Chk (i64 (IntKind.i64.wrap (1 - spf k 1 1073741824))) ∧
                                br (r.nearR.aftN (IntKind.i64.wrap (1 - spf k 1 1073741824)) != 4611686018427387904) (false = true)
                                  (br (!r.nearR.draw) ((r.nearR.aftN (spf k 1 1073741824) == 4611686018427387904) = true)
                                    (br (decide (r.nearR.aftN (spf k 1 1073741824) < 1) || decide (4611686018427387904 ≤ r.nearR.aftN (spf k 1 1073741824))) (false = true)
                                      (Chk (i64 (IntKind.i64.wrap (r.nearR.aftN (spf k 1 1073741824) - 1))) ∧ True ∧ (IntKind.i64.wrap (r.nearR.advN (IntKind.i64.wrap (r.nearR.aftN (spf k 1 1073741824) - 1))) == IntKind.i64.wrap (spf k 1 1073741824 - 1) && (r.nearR.advR (IntKind.i64.wrap (r.nearR.aftN (spf k 1 1073741824) - 1))).tickN == 1) = true))))))
                    (br (!!(r.nearR.advR (IntKind.i64.wrap (r.nearR.nextN - 1))).up == r.nearR.up && true)
                      (True ∧
                        br (!(r.nearR.advR (IntKind.i64.wrap (r.nearR.nextN - 1))).up == r.nearR.up || false == r.nearR.up) (false = true)
                          (Chk (spanOK k 1 1073741824) ∧
                            Chk (i64 (spf k 1 1073741824)) ∧
                              Chk (i64 (IntKind.i64.wrap (1 - spf k 1 1073741824))) ∧
                                br (r.nearR.aftN (IntKind.i64.wrap (1 - spf k 1 1073741824)) != 4611686018427387904) (false = true)
                                  (br (!r.nearR.draw) ((r.nearR.aftN (spf k 1 1073741824) == 4611686018427387904) = true)
                                    (br (decide (r.nearR.aftN (spf k 1 1073741824) < 1) || decide (4611686018427387904 ≤ r.nearR.aftN (spf k 1 1073741824))) (false = true)
                                      (Chk (i64 (IntKind.i64.wrap (r.nearR.aftN (spf k 1 1073741824) - 1))) ∧ True ∧ (IntKind.i64.wrap (r.nearR.advN (IntKind.i64.wrap (r.nearR.aftN (spf k 1 1073741824) - 1))) == IntKind.i64.wrap (spf k 1 1073741824 - 1) && (r.nearR.advR (IntKind.i64.wrap (r.nearR.aftN (spf k 1 1073741824) - 1))).tickN == 1) = true)))))
                      (br (!(r.nearR.advR (IntKind.i64.wrap (r.nearR.nextN - 1))).up == r.nearR.up || false == false) (false = true)
                        (Chk (spanOK k 1 1073741824) ∧
                          Chk (i64 (spf k 1 1073741824)) ∧
                            Chk (i64 (IntKind.i64.wrap (1 - spf k 1 1073741824))) ∧
                              br (r.nearR.aftN (IntKind.i64.wrap (1 - spf k 1 1073741824)) != 4611686018427387904) (false = true)
                                (br (!r.nearR.draw) ((r.nearR.aftN (spf k 1 1073741824) == 4611686018427387904) = true)
                                  (br (decide (r.nearR.aftN (spf k 1 1073741824) < 1) || decide (4611686018427387904 ≤ r.nearR.aftN (spf k 1 1073741824))) (false = true)
                                    (Chk (i64 (IntKind.i64.wrap (r.nearR.aftN (spf k 1 1073741824) - 1))) ∧ True ∧ (IntKind.i64.wrap (r.nearR.advN (IntKind.i64.wrap (r.nearR.aftN (spf k 1 1073741824) - 1))) == IntKind.i64.wrap (spf k 1 1073741824 - 1) && (r.nearR.advR (IntKind.i64.wrap (r.nearR.aftN (spf k 1 1073741824) - 1))).tickN == 1) = true))))))))
        (Chk (spanOK k 1 1073741824) ∧
          Chk (i64 (spf k 1 1073741824)) ∧
            Chk (i64 (IntKind.i64.wrap (1 - spf k 1 1073741824))) ∧
              br (r.nearR.aftN (IntKind.i64.wrap (1 - spf k 1 1073741824)) != 4611686018427387904) (false = true)
                (br (!r.nearR.draw) ((r.nearR.aftN (spf k 1 1073741824) == 4611686018427387904) = true)
                  (br (decide (r.nearR.aftN (spf k 1 1073741824) < 1) || decide (4611686018427387904 ≤ r.nearR.aftN (spf k 1 1073741824))) (false = true)
                    (Chk (i64 (IntKind.i64.wrap (r.nearR.aftN (spf k 1 1073741824) - 1))) ∧ True ∧ (IntKind.i64.wrap (r.nearR.advN (IntKind.i64.wrap (r.nearR.aftN (spf k 1 1073741824) - 1))) == IntKind.i64.wrap (spf k 1 1073741824 - 1) && (r.nearR.advR (IntKind.i64.wrap (r.nearR.aftN (spf k 1 1073741824) - 1))).tickN == 1) = true)))))) := by kernel_rfl

end Go.Sx

namespace Go.Sx
open Go.Proofs
set_option linter.unusedVariables false
set_option linter.unusedSimpArgs false

theorem pair_clocks {r : Ras} (h : r.valid = true) (hw : r.draw = true) : Ras.cks 178683 r = 482 := by
  have hp := pl_range h
  have hl := left_range h
  obtain ⟨l1, l2⟩ := its_left h
  rw [if_pos hw] at l2
  obtain ⟨f1, f2⟩ := its_frame r (!r.odd)
  rw [if_pos hw] at f2
  have key : ∀ (g m : Nat), (if (!r.odd) = true ∧ r.draw = true then 89341 else 89342 : Nat) = g → 178683 = r.left.toNat + (g + m) → m ≤ 89341 → struck m = struck r.pl → Ras.cks 178683 r = 482 := by
    intro g m e1 e2 hm e3
    rw [e1] at f1 f2
    have z : struck 0 = 0 := rfl
    have hin : inFrame (r.top (!(!r.odd))) ((r.top (!(!r.odd))).pl + m) := by
      unfold inFrame; rw [top_pl]
      refine ⟨by omega, ?_⟩
      by_cases c : m = 89341
      · refine .inr ⟨by omega, .inr ?_⟩
        rintro ⟨o, w⟩
        have o' : r.odd = true := by simpa [Ras.top] using o
        have hg : g = 89342 := by rw [← e1, o']; rfl
        have : r.left = 0 := by omega
        omega
      · exact .inl (by omega)
    have a := (its_jump (top_valid r (!(!r.odd))) m hin).2
    have hw2 : (r.top (!(!r.odd))).draw = true := hw
    rw [if_pos hw2, top_pl, Int.zero_add, z, e3] at a
    rw [e2, cks_add, cks_add, l1, l2, f1, f2, a]; omega
  by_cases s : r.pl ≤ 89340
  · cases ho : r.odd
    · have hL : r.left = 89342 - r.pl := by unfold Ras.left; rw [if_neg (by rw [ho]; simp)]
      exact key 89341 r.pl.toNat (by rw [ho, hw]; rfl) (by omega) (by omega) (by congr 1; omega)
    · have hL : r.left = 89341 - r.pl := by unfold Ras.left; rw [if_pos ⟨s, ho, hw⟩]
      exact key 89342 r.pl.toNat (by rw [ho, hw]; rfl) (by omega) (by omega) (by congr 1; omega)
  · have e : r.pl = 89341 := by omega
    have hL : r.left = 1 := by unfold Ras.left; rw [if_neg (by omega), e]; rfl
    cases ho : r.odd
    · exact key 89341 89341 (by rw [ho, hw]; rfl) (by rw [hL]; rfl) (by omega) (by rw [e]; rfl)
    · exact key 89342 89340 (by rw [ho, hw]; rfl) (by rw [hL]; rfl) (by omega) (by rw [e]; rfl)

theorem pairs_clocks {r : Ras} (h : r.valid = true) (hw : r.draw = true) (n : Nat) : ∀ j : Nat, Ras.cks (n + j * 178683) r = Ras.cks n r + j * 482
  | 0 => by simp
  | j + 1 => by
    have e : n + (j + 1) * 178683 = (n + j * 178683) + 178683 := by rw [Nat.succ_mul]; omega
    rw [e, cks_add, pairs_clocks h hw n j, pair_clocks (its_valid _ h) (by rw [(its_draw _ _).1]; exact hw)]
    omega

theorem tickN_one {r : Ras} (h : r.valid = true) : r.tickN ≤ 1 := by
  rw [(tick_its h).2]
  have p0 := pl_range h
  have q1 := nextP_cases r
  have q2 := nextP_cases r.step
  have q3 := nextP_cases r.step.step
  rw [step_pl] at q2 q3
  have e : ∀ s : Ras, nat01 s.clock = 0 ∨ (nat01 s.clock = 1 ∧ nextP s % 341 = 260 ∧ (nextP s < 81840 ∨ 89001 ≤ nextP s)) := by
    intro s
    unfold Ras.clock clk nat01
    split
    · rename_i c
      simp at c; exact .inr ⟨rfl, c.2.1, c.2.2⟩
    · exact .inl rfl
  have e1 := e r
  have e2 := e r.step
  have e3 := e r.step.step
  show nat01 r.clock + (nat01 r.step.clock + (nat01 r.step.step.clock + 0)) ≤ 1
  omega

/-- The cycle into which the k-th clock falls. -/
theorem aft_exact {r : Ras} (h : r.valid = true) (hw : r.draw = true) {k : Int} (h1 : 1 ≤ k) (h2 : k ≤ 1099511627776) :
    1 ≤ r.aftN k ∧ r.aftN k ≤ 136000000000000000 ∧ r.advN (r.aftN k - 1) = k - 1 ∧ (r.advR (r.aftN k - 1)).tickN = 1 := by
  have e : r.aftN k = (k - 1) / 482 * 59561 + (r.aftD ((k - 1) % 482 + 1) + 2) / 3 := by
    unfold Ras.aftN; rw [if_pos h, if_pos ⟨hw, h1, h2⟩]
  obtain ⟨c1, c2, c3, c4⟩ := aftD_spec h hw (k := (k - 1) % 482 + 1) (by omega) (by omega)
  have i1 := aftD_iff h hw (k := (k - 1) % 482 + 1) (by omega) (by omega)
  generalize r.aftD ((k - 1) % 482 + 1) = D at *
  refine ⟨by omega, by omega, ?_⟩
  rw [(advR_eq h _).2, (advR_eq h _).1]
  have e2 : 3 * (r.aftN k - 1).toNat = 3 * ((D + 2) / 3 - 1).toNat + ((k - 1) / 482).toNat * 178683 := by omega
  have a1 : Ras.cks (3 * (r.aftN k - 1).toNat) r = Ras.cks (3 * ((D + 2) / 3 - 1).toNat) r + ((k - 1) / 482).toNat * 482 := by
    rw [e2]; exact pairs_clocks h hw _ _
  have a2 : Ras.cks (3 * (r.aftN k - 1).toNat + 3) r = Ras.cks (3 * ((D + 2) / 3 - 1).toNat + 3) r + ((k - 1) / 482).toNat * 482 := by
    rw [e2, show 3 * ((D + 2) / 3 - 1).toNat + ((k - 1) / 482).toNat * 178683 + 3 = (3 * ((D + 2) / 3 - 1).toNat + 3) + ((k - 1) / 482).toNat * 178683 by omega]
    exact pairs_clocks h hw _ _
  have b1 := (i1 (3 * ((D + 2) / 3 - 1).toNat + 3)).2 (by omega)
  have b2 : ¬ ((k - 1) % 482 + 1 ≤ Ras.cks (3 * ((D + 2) / 3 - 1).toNat) r) := fun x => by
    have := (i1 _).1 x
    omega
  rw [cks_add, ← (tick_its (its_valid _ h)).2] at a2
  have t := tickN_one (its_valid (3 * (r.aftN k - 1).toNat) h)
  omega
end Go.Sx

namespace Go.Sx
open Go.Proofs
set_option linter.unusedVariables false
set_option linter.unusedSimpArgs false

theorem w6 (svs : List SV) (h : IsL Try.prog 3 [23, 3] svs) : bodyK (E0 gB noLoop) (callN (E0 gB noLoop) 1) 6 Try.f6 svs [] (fun x _ => isTrue x) := by
  obtain ⟨a, b, rfl, h1, h2⟩ := isL2 h
  obtain ⟨r, rfl, hr⟩ := is_ras h1
  obtain ⟨n, rfl, hn⟩ := is_int und3 h2
  have hn := inK_i64 hn
  rw [t6]
  exact ⟨trivial, trivial, trivial, trivial, ⟨hn⟩, ⟨hn⟩, by simp⟩

theorem exact_tail {q : Ras} (h : q.valid = true) {k : Int} (hk : i64 k) : Chk (spanOK k 1 1073741824) ∧
          Chk (i64 (spf k 1 1073741824)) ∧
            Chk (i64 (IntKind.i64.wrap (1 - spf k 1 1073741824))) ∧
              br (q.aftN (IntKind.i64.wrap (1 - spf k 1 1073741824)) != 4611686018427387904) (false = true)
                (br (!q.draw) ((q.aftN (spf k 1 1073741824) == 4611686018427387904) = true)
                  (br (decide (q.aftN (spf k 1 1073741824) < 1) || decide (4611686018427387904 ≤ q.aftN (spf k 1 1073741824))) (false = true)
                    (Chk (i64 (IntKind.i64.wrap (q.aftN (spf k 1 1073741824) - 1))) ∧ True ∧ (IntKind.i64.wrap (q.advN (IntKind.i64.wrap (q.aftN (spf k 1 1073741824) - 1))) == IntKind.i64.wrap (spf k 1 1073741824 - 1) && (q.advR (IntKind.i64.wrap (q.aftN (spf k 1 1073741824) - 1))).tickN == 1) = true))) := by
  have hs := i64_spf k 1 1073741824 (by omega) (by omega)
  have hx : spanOK k 1 1073741824 := ⟨hk, by omega, by omega, by omega⟩
  generalize spf k 1 1073741824 = j at *
  have z : q.aftN (1 - j) = 4611686018427387904 := by unfold Ras.aftN; rw [if_pos h, if_neg (by omega)]; rfl
  rw [IntWalk.i64_in (1 - j) (by omega), z, IntWalk.i64_in (j - 1) (by omega)]
  refine ⟨⟨hx⟩, ⟨by unfold i64; omega⟩, ⟨by unfold i64; omega⟩, ?_⟩
  show br false _ _
  show br (!q.draw) _ _
  refine br_in (fun a => ?_) (fun a => ?_)
  · have : q.aftN j = 4611686018427387904 := by unfold Ras.aftN; rw [if_pos h, if_neg (by simp at a; rw [a]; simp)]; rfl
    rw [this]; rfl
  · simp at a
    obtain ⟨b1, b2, b3, b4⟩ := aft_exact h a (k := j) (by omega) (by omega)
    rw [IntWalk.i64_in (q.aftN j - 1) (by omega), b3, b4, IntWalk.i64_in (j - 1) (by omega)]
    refine br_in (fun c => ?_) (fun c => ⟨⟨by unfold i64; omega⟩, trivial, by simp⟩)
    simp at c; omega

theorem exact_next {q : Ras} (h : q.valid = true) (hn : q.nmi = true) : 1 ≤ q.nextN ∧ q.nextN ≤ 1000000 ∧ (q.advR (q.nextN - 1)).up = q.up ∧ (q.advR (q.nextN - 1)).tickR.up = !q.up := by
  have hb := nextJ_bounds h
  have hd := nextD_range h
  have hf := flips h
  have e := nextN_J h hn
  refine ⟨by omega, by omega, ?_⟩
  rw [(advR_eq h _).1]
  have v1 := its_valid (3 * (q.nextN - 1).toNat) h
  have v2 := its_valid (3 * q.nextJ) h
  rw [(tick_its v1).1, ← its_add]
  have e3 : 3 * (q.nextN - 1).toNat + 3 = 3 * q.nextJ := by omega
  have f1 := flag_at h (3 * (q.nextN - 1).toNat) (by omega)
  rw [if_pos (by omega)] at f1
  rw [e3]
  unfold Ras.up
  rw [v1, v2, hf, f1, (its_draw _ _).2, (its_draw _ _).2, h, hn]
  simp

theorem w13 (svs : List SV) (h : IsL Try.prog 3 [23, 3] svs) : bodyK (E0 gB noLoop) (callN (E0 gB noLoop) 1) 13 Try.f13 svs [] (fun x _ => isTrue x) := by
  obtain ⟨a, b, rfl, h1, h2⟩ := isL2 h
  obtain ⟨r, rfl, hr⟩ := is_ras h1
  obtain ⟨k, rfl, hk⟩ := is_int und3 h2
  have hk := inK_i64 hk
  rw [t13]
  have hv := near_valid r
  refine ⟨⟨hr⟩, trivial, ?_⟩
  generalize r.nearR = q at *
  have T := exact_tail hv hk
  cases hn : q.nmi with
  | false =>
    have : q.nextN = 4611686018427387904 := by unfold Ras.nextN; rw [if_pos hv, hn]; rfl
    rw [this]
    exact T
  | true =>
    obtain ⟨n1, n2, n3, n4⟩ := exact_next hv hn
    rw [IntWalk.i64_in (q.nextN - 1) (by omega), n3, n4]
    show br (decide (q.nextN < 1) || decide (4611686018427387904 ≤ q.nextN)) _ _
    refine br_in (fun c => ?_) (fun c => ⟨⟨by unfold i64; omega⟩, trivial, trivial, trivial, ?_⟩)
    · simp at c; omega
    · cases q.up
      · exact ⟨trivial, trivial, T⟩
      · exact ⟨trivial, trivial, T⟩
end Go.Sx
