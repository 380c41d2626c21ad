/- SxR24: the document's Next: its loop's contract. -/
import Derived.Test.YtmgaphghjhbhhaaSxR23
namespace Go.Sx
open Go.Proofs
set_option linter.unusedVariables false
set_option linter.unusedSimpArgs false

theorem jump_vbl (r : Ras) (q : Int) : (r.jump q).vbl = if r.pl < 89002 ∧ 89002 ≤ q then false else if r.pl < 82182 ∧ 82182 ≤ q then !r.hold else r.vbl := rfl

/-- The flag up to the dot that nextD tells, and at three dots from there. -/
theorem flag_at {r : Ras} (h : r.valid = true) (m : Nat) (hm : (m : Int) ≤ r.nextD + 2) : (Ras.its m r).vbl = if (m : Int) < r.nextD then r.vbl else !r.vbl := by
  have hp := pl_range h
  have hl := left_range h
  have hv := h
  rw [valid_iff] at hv
  have hlv : ¬ (r.pl ≤ 89340 ∧ r.odd = true ∧ r.draw = true) → r.left = 89342 - r.pl := fun c => by unfold Ras.left; rw [if_neg c]
  have hlv2 : (r.pl ≤ 89340 ∧ r.odd = true ∧ r.draw = true) → r.left = 89341 - r.pl := fun c => by unfold Ras.left; rw [if_pos c]
  have hle : 89341 - r.pl ≤ r.left := by
    by_cases c : (r.pl ≤ 89340 ∧ r.odd = true ∧ r.draw = true)
    · have := hlv2 c; omega
    · have := hlv c; omega
  unfold Ras.nextD at hm ⊢
  cases hb : r.vbl with
  | true =>
    have h1 := hv.2.2.2.2.1 hb
    rw [hb] at hm
    simp only [if_true] at hm ⊢
    obtain ⟨s1, _, _⟩ := its_skip h (n := (m : Int)) (by omega) (by omega)
    rw [Int.toNat_natCast] at s1
    rw [s1, jump_vbl, hb]
    by_cases c : (m : Int) < 89002 - r.pl
    · rw [if_pos c, if_neg (by omega), if_neg (by omega)]
    · rw [if_neg c, if_pos (by omega)]; rfl
  | false =>
    rw [hb] at hm
    simp only [Bool.false_eq_true, if_false] at hm ⊢
    by_cases c : 82181 < r.pl ∨ r.hold = true
    · rw [if_pos c] at hm ⊢
      by_cases e : (m : Int) < r.left
      · rw [if_pos (by omega)]
        obtain ⟨s1, _, _⟩ := its_skip h (n := (m : Int)) (by omega) e
        rw [Int.toNat_natCast] at s1
        rw [s1, jump_vbl, hb]
        by_cases f : r.pl < 89002 ∧ 89002 ≤ r.pl + m
        · rw [if_pos f]
        · rw [if_neg f]
          by_cases g : r.pl < 82182 ∧ 82182 ≤ r.pl + m
          · rw [if_pos g]
            rcases c with c | c
            · omega
            · rw [c]; rfl
          · rw [if_neg g]
      · have e2 : m = r.left.toNat + (m - r.left.toNat) := by omega
        have e3 : Ras.its m r = Ras.its (m - r.left.toNat) (r.top (!r.odd)) := by
          conv => lhs; rw [e2]
          rw [its_add, (its_left h).1]
        rw [e3]
        have tl : (r.top (!r.odd)).left ≥ 89341 := by
          unfold Ras.left; rw [top_pl]; split <;> omega
        obtain ⟨s1, _, _⟩ := its_skip (top_valid r (!r.odd)) (n := ((m - r.left.toNat : Nat) : Int)) (by omega) (by omega)
        rw [Int.toNat_natCast] at s1
        rw [s1, jump_vbl, top_pl]
        have t1 : (r.top (!r.odd)).hold = false := rfl
        have t2 : (r.top (!r.odd)).vbl = false := rfl
        rw [t1, t2, if_neg (by omega)]
        by_cases g : (m : Int) < r.left + 82182
        · rw [if_pos g, if_neg (by omega)]
        · rw [if_neg g, if_pos (by omega)]
    · rw [if_neg c] at hm ⊢
      have c1 : r.pl ≤ 82181 := by
        refine Classical.byContradiction fun k => ?_
        exact c (.inl (by omega))
      have c2 : r.hold = false := by
        cases hh : r.hold
        · rfl
        · exact (c (.inr hh)).elim
      obtain ⟨s1, _, _⟩ := its_skip h (n := (m : Int)) (by omega) (by omega)
      rw [Int.toNat_natCast] at s1
      rw [s1, jump_vbl, hb, c2, if_neg (by omega)]
      by_cases g : (m : Int) < 82182 - r.pl
      · rw [if_pos g, if_neg (by omega)]
      · rw [if_neg g, if_pos (by omega)]

def Ras.nextJ (r : Ras) : Nat := ((r.nextD + 2) / 3).toNat
def body31 : St → Kont → Prop := execC (E0 g9 noLoop) (callN (E0 g9 noLoop) 1) 31 Try.f31.ntmps (codeL Try.f31 8)

theorem loop31 (K : Kont) (r : Ras) (z : Int) (h : r.valid = true) (hk : K (Exit.exit 0) (st31 (Ras.its (3 * r.nextJ) r) r.vbl r.nextJ z)) :
    ∀ (i k : Nat), k + i = r.nextJ → ∃ m, roundsN keep31 1 body31 K m (st31 (Ras.its (3 * k) r) r.vbl k z)
  | 0, k, e => by
    have hd := nextD_range h
    have hJ : r.nextJ = ((r.nextD + 2) / 3).toNat := rfl
    refine ⟨1, ?_⟩
    rw [roundsN_succ]; unfold body31; rw [tl31]
    have hf := flag_at h (3 * k) (by omega)
    rw [if_neg (by omega)] at hf
    rw [hf]
    refine br_in (fun a => ?_) (fun a => ?_)
    · cases r.vbl <;> simp at a
    · have e' : k = r.nextJ := by omega
      rw [e']; exact hk
  | i + 1, k, e => by
    have hd := nextD_range h
    have hJ : r.nextJ = ((r.nextD + 2) / 3).toNat := rfl
    obtain ⟨m, hm⟩ := loop31 K r z h hk i (k + 1) (by omega)
    refine ⟨m + 1, ?_⟩
    rw [roundsN_succ]; unfold body31; rw [tl31]
    have hf := flag_at h (3 * k) (by omega)
    rw [if_pos (by omega)] at hf
    rw [hf]
    have hv := its_valid (3 * k) h
    refine br_in (fun a => ?_) (fun a => ?_)
    · rw [(tick_its hv).1, ← its_add, IntWalk.i64_in ((k : Int) + 1) (by omega)]
      exact ⟨⟨hv⟩, hm⟩
    · simp at a

def ok31 (r : Ras) (now : Bool) (n : Int) : Prop := r.valid = true ∧ now = r.vbl ∧ n = 0
def pt31 (s : St) (K : Kont) : Prop := match s with
  | ⟨[(1, .ptr 0 []), (2, .i .i64 z), (4, .b now), (5, .i .i64 n)], [x]⟩ => (match rasOf x with
    | some r => Chk (ok31 r now n) ∧ K (Exit.exit 0) (st31 (Ras.its (3 * r.nextJ) r) r.vbl r.nextJ z)
    | none => False)
  | _ => False
def l31 : LCon := ⟨keep31, pt31⟩
def L31 : List (Nat × Nat × LCon) := [(31, 8, l31)]
theorem in31 (gam : List (Nat × Con)) (loop : List (Nat × Nat × LCon)) : LoopIn (E0 gam loop) (31, 8, l31) := by
  refine loop_in g9_ok 1 Try.func31 (by kernel_rfl) fun s K hp => ?_
  change pt31 s K at hp
  unfold pt31 at hp
  split at hp
  · rename_i z now n x
    split at hp
    · rename_i r hr
      obtain ⟨⟨hv, rfl, rfl⟩, k1⟩ := hp
      rw [rasOf_some hr]
      exact loop31 K r z hv k1 r.nextJ 0 (by omega)
    · exact hp.elim
  · exact hp.elim
theorem L31_ok (gam : List (Nat × Con)) : LoopsOK (E0 gam L31) := loops_ok rfl ⟨in31 _ _, trivial⟩
end Go.Sx
