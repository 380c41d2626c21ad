/- SxM4: where the raster stands when the flag has changed. -/
import Derived.Test.YtmgaphghjhbhhaaSxR25
namespace Go.Sx
open Go.Proofs
set_option linter.unusedVariables false
set_option linter.unusedSimpArgs false

theorem nextJ_bounds {r : Ras} (h : r.valid = true) : r.nextD ≤ 3 * r.nextJ ∧ 3 * (r.nextJ : Int) ≤ r.nextD + 2 ∧ 1 ≤ r.nextJ := by
  have hd := nextD_range h
  unfold Ras.nextJ; omega

theorem flips {r : Ras} (h : r.valid = true) : (Ras.its (3 * r.nextJ) r).vbl = !r.vbl := by
  have hb := nextJ_bounds h
  have := flag_at h (3 * r.nextJ) (by omega)
  rw [if_neg (by omega)] at this
  exact this

/-- From a set flag: it is cleared at line 261, dot 1 (or two dots behind). -/
theorem falls {r : Ras} (h : r.valid = true) (hv : r.vbl = true) : (Ras.its (3 * r.nextJ) r).pl = r.pl + 3 * r.nextJ ∧ (Ras.its (3 * r.nextJ) r).odd = r.odd ∧ r.nextD = 89002 - r.pl ∧ (Ras.its (3 * r.nextJ) r).hold = false := by
  have hb := nextJ_bounds h
  have hD : r.nextD = 89002 - r.pl := by unfold Ras.nextD; rw [if_pos hv]
  have hvv := h
  rw [valid_iff] at hvv
  have h1 := hvv.2.2.2.2.1 hv
  have hle : 89341 - r.pl ≤ r.left := by unfold Ras.left; split <;> omega
  obtain ⟨s1, _, _⟩ := its_skip h (n := ((3 * r.nextJ : Nat) : Int)) (by omega) (by omega)
  rw [Int.toNat_natCast] at s1
  rw [s1, jump_pl]
  refine ⟨by omega, rfl, hD, ?_⟩
  show (if r.pl < 82182 ∧ _ then false else r.hold) = false
  rw [if_neg (by omega)]
  cases hh : r.hold
  · rfl
  · have := hvv.2.2.2.2.2 hh; omega

/-- From a clear flag: it is set at line 241, dot 1 (or two dots behind). -/
theorem rises {r : Ras} (h : r.valid = true) (hv : r.vbl = false) : (Ras.its (3 * r.nextJ) r).pl = 82182 + (3 * r.nextJ - r.nextD) := by
  have hb := nextJ_bounds h
  have hp := pl_range h
  have hl := left_range h
  have hle : 89341 - r.pl ≤ r.left := by unfold Ras.left; split <;> omega
  by_cases c : 82181 < r.pl ∨ r.hold = true
  · have hD : r.nextD = r.left + 82182 := by unfold Ras.nextD; rw [if_neg (by rw [hv]; simp), if_pos c]
    have e2 : 3 * r.nextJ = r.left.toNat + (3 * r.nextJ - r.left.toNat) := by omega
    have e3 : Ras.its (3 * r.nextJ) r = Ras.its (3 * r.nextJ - r.left.toNat) (r.top (!r.odd)) := by
      conv => lhs; rw [e2]
      rw [its_add, (its_left h).1]
    have tl : (r.top (!r.odd)).left ≥ 89341 := by
      unfold Ras.left; rw [top_pl]; split <;> omega
    obtain ⟨s1, _, _⟩ := its_skip (top_valid r (!r.odd)) (n := ((3 * r.nextJ - r.left.toNat : Nat) : Int)) (by omega) (by omega)
    rw [Int.toNat_natCast] at s1
    rw [e3, s1, jump_pl, top_pl]; omega
  · have hD : r.nextD = 82182 - r.pl := by unfold Ras.nextD; rw [if_neg (by rw [hv]; simp), if_neg c]
    have c1 : r.pl ≤ 82181 := by
      refine Classical.byContradiction fun k => ?_
      exact c (.inl (by omega))
    obtain ⟨s1, _, _⟩ := its_skip h (n := ((3 * r.nextJ : Nat) : Int)) (by omega) (by omega)
    rw [Int.toNat_natCast] at s1
    rw [s1, jump_pl]; omega
end Go.Sx
