/- SxM1: many dots at once: plain laws of the raster, no program in sight. -/
import Derived.Test.YtmgaphghjhbhhaaSxR4
namespace Go.Sx
set_option linter.unusedVariables false
set_option linter.unusedSimpArgs false

def Ras.its : Nat → Ras → Ras
  | 0, r => r
  | n + 1, r => Ras.its n r.step
def Ras.cks : Nat → Ras → Int
  | 0, r => 0
  | n + 1, r => nat01 r.clock + Ras.cks n r.step

theorem its_add : ∀ (m n : Nat) (r : Ras), Ras.its (m + n) r = Ras.its n (Ras.its m r)
  | 0, n, r => by simp [Ras.its]
  | m + 1, n, r => by rw [Nat.succ_add]; simp only [Ras.its]; exact its_add m n _
theorem cks_add : ∀ (m n : Nat) (r : Ras), Ras.cks (m + n) r = Ras.cks m r + Ras.cks n (Ras.its m r)
  | 0, n, r => by simp [Ras.its, Ras.cks]
  | m + 1, n, r => by rw [Nat.succ_add]; simp only [Ras.its, Ras.cks]; rw [cks_add m n]; omega
theorem its_one (r : Ras) : Ras.its 1 r = r.step := rfl
theorem cks_one (r : Ras) : Ras.cks 1 r = nat01 r.clock := by simp [Ras.cks]
theorem its_valid : ∀ (n : Nat) {r : Ras}, r.valid = true → (Ras.its n r).valid = true
  | 0, r, h => h
  | n + 1, r, h => its_valid n (step_valid h)
theorem cks_le : ∀ (n : Nat) (r : Ras), 0 ≤ Ras.cks n r ∧ Ras.cks n r ≤ n
  | 0, r => by simp [Ras.cks]
  | n + 1, r => by
    have := cks_le n r.step
    have := nat01_le r.clock
    simp only [Ras.cks]; omega

/-- How many scanline clocks lie at the places up to p. -/
def struck (p : Int) : Int := if p < 260 then 0 else (if (p - 260) / 341 + 1 < 240 then (p - 260) / 341 + 1 else 240) + (if 89261 ≤ p then 1 else 0)

theorem struck_clk (p : Int) (h : 0 ≤ p) (h2 : p ≤ 89341) : struck (p + 1) = struck p + nat01 (clk (p + 1)) := by
  have e : nat01 (clk (p + 1)) = if (p + 1) % 341 = 260 ∧ (p + 1 < 81840 ∨ 89001 ≤ p + 1) then 1 else 0 := by
    unfold nat01 clk; simp
  rw [e]
  unfold struck
  repeat' split
  all_goals omega

/-- The raster at place q of the same frame, q not ahead of where it is. -/
def Ras.jump (r : Ras) (q : Int) : Ras :=
  { line := q / 341, dot := q % 341, odd := r.odd
    vbl := if r.pl < 89002 ∧ 89002 ≤ q then false else if r.pl < 82182 ∧ 82182 ≤ q then !r.hold else r.vbl
    nmi := r.nmi, draw := r.draw
    hold := if r.pl < 82182 ∧ 82182 ≤ q then false else r.hold }

theorem pl_at (l d p : Int) (h : l = p / 341) (h2 : d = p % 341) : l * 341 + d = p := by omega

theorem jump_pl (r : Ras) (q : Int) : (r.jump q).pl = q := by
  unfold Ras.pl Ras.jump; simp only; omega

theorem jump_self {r : Ras} (h : r.valid = true) : r.jump r.pl = r := by
  rw [valid_iff] at h
  have e : r.line = r.pl / 341 ∧ r.dot = r.pl % 341 := by unfold Ras.pl at *; omega
  unfold Ras.jump
  rw [if_neg (by omega), if_neg (by omega), if_neg (by omega), ← e.1, ← e.2]

theorem jump_step {r : Ras} (h : r.valid = true) {q : Int} (hq : r.pl ≤ q) (h2 : q ≤ 89339 ∨ (q = 89340 ∧ ¬ (r.odd = true ∧ r.draw = true))) :
    (r.jump q).step = r.jump (q + 1) ∧ (r.jump q).clock = (r.draw && clk (q + 1)) := by
  have e : nextP (r.jump q) = q + 1 := by
    unfold nextP
    rw [jump_pl]
    rw [if_neg]
    intro hc
    rcases hc with hc | hc
    · omega
    · rcases h2 with h2 | h2
      · omega
      · exact h2.2 hc.2
  unfold Ras.step Ras.clock
  rw [e]
  refine ⟨?_, rfl⟩
  rw [valid_iff] at h
  have hp : 0 ≤ r.pl := by unfold Ras.pl; omega
  obtain ⟨l, d, o, v, n, w, hh⟩ := r
  unfold Ras.goOn Ras.jump
  generalize Ras.pl _ = p at *
  simp only at *
  have h0 : ¬ (q + 1 = 0) := by omega
  rw [if_neg h0]
  congr 1
  · by_cases a : q + 1 = 82182
    · rw [if_pos a]
      have b1 : p < 82182 ∧ 82182 ≤ q + 1 := by omega
      have b2 : ¬ (p < 82182 ∧ 82182 ≤ q) := by omega
      have b3 : ¬ (p < 89002 ∧ 89002 ≤ q) := by omega
      have b4 : ¬ (p < 89002 ∧ 89002 ≤ q + 1) := by omega
      rw [if_neg b3, if_neg b2, if_neg b2, if_neg b4, if_pos b1]
      cases v
      · rfl
      · have := h.2.2.2.2.1 rfl; omega
    · rw [if_neg a]
      by_cases c : q + 1 = 89002
      · rw [if_pos c, if_pos (by omega)]
      · rw [if_neg c]
        have k1 : (p < 89002 ∧ 89002 ≤ q) ↔ (p < 89002 ∧ 89002 ≤ q + 1) := by omega
        have k2 : (p < 82182 ∧ 82182 ≤ q) ↔ (p < 82182 ∧ 82182 ≤ q + 1) := by omega
        simp only [k1, k2]
  · by_cases a : q + 1 = 82182
    · rw [if_pos a, if_pos (by omega)]
    · rw [if_neg a]
      have k2 : (p < 82182 ∧ 82182 ≤ q) ↔ (p < 82182 ∧ 82182 ≤ q + 1) := by omega
      simp only [k2]

def inFrame (r : Ras) (q : Int) : Prop := r.pl ≤ q ∧ (q ≤ 89340 ∨ (q = 89341 ∧ (r.pl = 89341 ∨ ¬ (r.odd = true ∧ r.draw = true))))

theorem its_succ (n : Nat) (r : Ras) : Ras.its (n + 1) r = (Ras.its n r).step := by rw [its_add]; rfl
theorem cks_succ (n : Nat) (r : Ras) : Ras.cks (n + 1) r = Ras.cks n r + nat01 (Ras.its n r).clock := by rw [cks_add, cks_one]

theorem its_jump {r : Ras} (h : r.valid = true) : ∀ (n : Nat), inFrame r (r.pl + n) → Ras.its n r = r.jump (r.pl + n) ∧ Ras.cks n r = (if r.draw = true then struck (r.pl + n) - struck r.pl else 0)
  | 0, hf => by
    have z : r.pl + ((0 : Nat) : Int) = r.pl := by omega
    rw [z]; simp only [Ras.its, Ras.cks]
    refine ⟨(jump_self h).symm, ?_⟩
    split <;> omega
  | n + 1, hf => by
    have hf0 := hf
    unfold inFrame at hf
    have hp : 0 ≤ r.pl := by rw [valid_iff] at h; unfold Ras.pl; omega
    have e : r.pl + ((n + 1 : Nat) : Int) = r.pl + n + 1 := by omega
    rw [e] at hf ⊢
    obtain ⟨i1, i2⟩ := its_jump h n (by unfold inFrame; omega)
    obtain ⟨s1, s2⟩ := jump_step h (q := r.pl + n) (by omega) (by
      rcases hf.2 with k | k
      · exact .inl (by omega)
      · refine .inr ⟨by omega, fun hc => ?_⟩
        rcases k.2 with k2 | k2
        · omega
        · exact k2 hc)
    rw [its_succ, cks_succ, i1, i2, s1, s2]
    refine ⟨rfl, ?_⟩
    cases hd : r.draw
    · simp [nat01]
    · simp only [Bool.true_and, if_true]
      rw [struck_clk _ (by omega) (by omega)]; omega

end Go.Sx
