/- SxM2: a frame's end, whole frames: plain laws of the raster. -/
import Derived.Test.YtmgaphghjhbhhaaSxM1
namespace Go.Sx
set_option linter.unusedVariables false
set_option linter.unusedSimpArgs false

/-- The first dot of a frame. -/
def Ras.top (r : Ras) (o : Bool) : Ras := { line := 0, dot := 0, odd := o, vbl := false, nmi := r.nmi, draw := r.draw, hold := false }

/-- Dots to the next frame's first one. -/
def Ras.left (r : Ras) : Int := if r.pl ≤ 89340 ∧ r.odd = true ∧ r.draw = true then 89341 - r.pl else 89342 - r.pl

theorem left_range {r : Ras} (h : r.valid = true) : 1 ≤ r.left ∧ r.left ≤ 89342 := by
  rw [valid_iff] at h
  unfold Ras.left Ras.pl at *
  split <;> omega

theorem jump_end {r : Ras} (h : r.valid = true) {q : Int} (hq : r.pl ≤ q) (h2 : (q = 89341) ∨ (q = 89340 ∧ r.odd = true ∧ r.draw = true)) :
    (r.jump q).step = r.top (!r.odd) ∧ (r.jump q).clock = false := by
  have e : nextP (r.jump q) = 0 := by
    unfold nextP
    rw [jump_pl, if_pos]
    rcases h2 with h2 | h2
    · exact .inl h2
    · exact .inr h2
  unfold Ras.step Ras.clock
  rw [e]
  constructor
  · rw [valid_iff] at h
    unfold Ras.goOn Ras.jump Ras.top
    simp only
    have a : ¬ ((0 : Int) = 82182) := by omega
    have b : ¬ ((0 : Int) = 89002) := by omega
    rw [if_neg a, if_neg b, if_neg a]
    have v : (if r.pl < 89002 ∧ 89002 ≤ q then false else if r.pl < 82182 ∧ 82182 ≤ q then !r.hold else r.vbl) = false := by
      by_cases c : r.pl < 89002
      · rw [if_pos (by omega)]
      · rw [if_neg (by omega), if_neg (by omega)]
        cases hv : r.vbl
        · rfl
        · have := h.2.2.2.2.1 hv; omega
    have w : (if r.pl < 82182 ∧ 82182 ≤ q then false else r.hold) = false := by
      by_cases c : r.pl < 82182
      · rw [if_pos (by omega)]
      · rw [if_neg (by omega)]
        cases hv : r.hold
        · rfl
        · have := h.2.2.2.2.2 hv; omega
    rw [v, w]; rfl
  · have : clk 0 = false := by unfold clk; rfl
    rw [this]; simp

theorem struck_last : struck 89341 = 241 ∧ struck 89340 = 241 := by constructor <;> rfl

/-- To the next frame's first dot. -/
theorem its_left {r : Ras} (h : r.valid = true) : Ras.its r.left.toNat r = r.top (!r.odd) ∧ Ras.cks r.left.toNat r = if r.draw = true then 241 - struck r.pl else 0 := by
  have hl := left_range h
  have hp : 0 ≤ r.pl ∧ r.pl ≤ 89341 := by rw [valid_iff] at h; unfold Ras.pl; omega
  obtain ⟨m, hm⟩ : ∃ m : Nat, r.left.toNat = m + 1 := ⟨r.left.toNat - 1, by omega⟩
  have hq : r.pl + m = r.pl + r.left - 1 := by omega
  have hf : inFrame r (r.pl + m) := by
    unfold inFrame; rw [hq]; unfold Ras.left at *
    split
    · exact ⟨by omega, .inl (by omega)⟩
    · rename_i hc
      refine ⟨by omega, .inr ⟨by omega, ?_⟩⟩
      by_cases c : r.pl = 89341
      · exact .inl c
      · exact .inr fun k => hc ⟨by omega, k.1, k.2⟩
  obtain ⟨i1, i2⟩ := its_jump h m hf
  have hend : (r.pl + m = 89341) ∨ (r.pl + m = 89340 ∧ r.odd = true ∧ r.draw = true) := by
    rw [hq]; unfold Ras.left
    split
    · rename_i hc; exact .inr ⟨by omega, hc.2.1, hc.2.2⟩
    · exact .inl (by omega)
  obtain ⟨j1, j2⟩ := jump_end h (q := r.pl + m) (by omega) hend
  rw [hm, its_succ, cks_succ, i1, i2, j1, j2]
  refine ⟨rfl, ?_⟩
  have hs : struck (r.pl + m) = 241 := by
    rcases hend with e | e
    · rw [e]; exact struck_last.1
    · rw [e.1]; exact struck_last.2
  rw [hs]
  cases r.draw <;> simp [nat01]

theorem top_valid (r : Ras) (o : Bool) : (r.top o).valid = true := by rw [valid_iff]; simp [Ras.top]
theorem top_pl (r : Ras) (o : Bool) : (r.top o).pl = 0 := by simp [Ras.top, Ras.pl]
theorem top_top (r : Ras) (o o' : Bool) : (r.top o).top o' = r.top o' := rfl

/-- A whole frame from its first dot. -/
theorem its_frame (r : Ras) (o : Bool) : Ras.its (if o = true ∧ r.draw = true then 89341 else 89342) (r.top o) = r.top (!o) ∧ Ras.cks (if o = true ∧ r.draw = true then 89341 else 89342) (r.top o) = if r.draw = true then 241 else 0 := by
  have h := its_left (top_valid r o)
  have e : (r.top o).left.toNat = if o = true ∧ r.draw = true then 89341 else 89342 := by
    unfold Ras.left
    rw [top_pl]
    have : (r.top o).odd = o ∧ (r.top o).draw = r.draw := ⟨rfl, rfl⟩
    rw [this.1, this.2]
    by_cases c : o = true ∧ r.draw = true
    · rw [if_pos ⟨by omega, c.1, c.2⟩, if_pos c]; rfl
    · rw [if_neg (fun k => c k.2), if_neg c]; rfl
  rw [e, top_pl] at h
  have z : struck 0 = 0 := rfl
  rw [z] at h
  exact h

/-- Two frames. -/
def pair (w : Bool) : Nat := if w = true then 178683 else 178684
theorem its_pair (r : Ras) (o : Bool) : Ras.its (pair r.draw) (r.top o) = r.top o ∧ Ras.cks (pair r.draw) (r.top o) = if r.draw = true then 482 else 0 := by
  obtain ⟨a1, a2⟩ := its_frame r o
  obtain ⟨b1, b2⟩ := its_frame r (!o)
  have e : pair r.draw = (if o = true ∧ r.draw = true then 89341 else 89342) + (if (!o) = true ∧ r.draw = true then 89341 else 89342) := by
    unfold pair; cases o <;> cases r.draw <;> rfl
  rw [e, its_add, cks_add, a1, a2, b1, b2]
  refine ⟨by simp, ?_⟩
  cases r.draw <;> simp

/-- Settled: behind a frame's first dot. -/
theorem its_settled (r : Ras) (o : Bool) (m : Nat) : Ras.its (pair r.draw) (Ras.its m (r.top o)) = Ras.its m (r.top o) ∧ Ras.cks (pair r.draw) (Ras.its m (r.top o)) = if r.draw = true then 482 else 0 := by
  obtain ⟨a1, a2⟩ := its_pair r o
  constructor
  · rw [← its_add, Nat.add_comm, its_add, a1]
  · have h1 := cks_add m (pair r.draw) (r.top o)
    have h2 := cks_add (pair r.draw) m (r.top o)
    rw [Nat.add_comm, h2, a1, a2] at h1
    omega

theorem its_draw : ∀ (n : Nat) (r : Ras), (Ras.its n r).draw = r.draw ∧ (Ras.its n r).nmi = r.nmi
  | 0, r => ⟨rfl, rfl⟩
  | n + 1, r => its_draw n r.step

/-- Any number of dots from one frame's length on is settled. -/
theorem its_many {r : Ras} (h : r.valid = true) (n : Nat) (hn : 89342 ≤ n) : Ras.its (pair r.draw) (Ras.its n r) = Ras.its n r ∧ Ras.cks (pair r.draw) (Ras.its n r) = if r.draw = true then 482 else 0 := by
  have hl := left_range h
  have e : n = r.left.toNat + (n - r.left.toNat) := by omega
  rw [e, its_add, (its_left h).1]
  exact its_settled r _ _

/-- So whole pairs of frames change nothing. -/
theorem its_pairs {r : Ras} (h : r.valid = true) (n : Nat) (hn : 89342 ≤ n) : ∀ (k : Nat), Ras.its (n + k * pair r.draw) r = Ras.its n r ∧ Ras.cks (n + k * pair r.draw) r = Ras.cks n r + k * (if r.draw = true then 482 else 0)
  | 0 => by simp
  | k + 1 => by
    obtain ⟨i1, i2⟩ := its_pairs h n hn k
    have e : n + (k + 1) * pair r.draw = (n + k * pair r.draw) + pair r.draw := by rw [Nat.succ_mul]; omega
    obtain ⟨m1, m2⟩ := its_many h n hn
    rw [e, its_add, cks_add, i1, i2, m1, m2]
    refine ⟨rfl, ?_⟩
    split <;> omega
end Go.Sx
