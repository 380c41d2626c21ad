/- SxM5: the shape of a vertical blank: plain law. -/
import Derived.Test.YtmgaphghjhbhhaaSxM4
namespace Go.Sx
open Go.Proofs
set_option linter.unusedVariables false
set_option linter.unusedSimpArgs false

theorem nextN_J {r : Ras} (h : r.valid = true) (hn : r.nmi = true) : r.nextN = r.nextJ := by
  have hd := nextD_range h
  unfold Ras.nextN Ras.nextJ; rw [if_pos h, if_pos hn]; omega

theorem adv_next {r : Ras} (h : r.valid = true) (hn : r.nmi = true) : r.advR r.nextN = Ras.its (3 * r.nextJ) r := by
  rw [nextN_J h hn, (advR_eq h _).1, Int.toNat_natCast]

/-- Of a raster that stands where the flag has just risen. -/
theorem blank_shape {t : Ras} (h : t.valid = true) (hv : t.vbl = true) (h1 : 82182 ≤ t.pl) (h2 : t.pl ≤ 82184) :
    (t.nextJ = 2273 ∨ t.nextJ = 2274) ∧ (t.nextJ + (Ras.its (3 * t.nextJ) t).nextJ = 29780 ∨ t.nextJ + (Ras.its (3 * t.nextJ) t).nextJ = 29781) ∧
    (Ras.its (3 * (Ras.its (3 * t.nextJ) t).nextJ) (Ras.its (3 * t.nextJ) t)).vbl = true := by
  obtain ⟨p1, p2, p3, p4⟩ := falls h hv
  have hb := nextJ_bounds h
  have hs := its_valid (3 * t.nextJ) h
  have hf := flips h
  rw [hv] at hf
  generalize Ras.its (3 * t.nextJ) t = s at *
  have hbs := nextJ_bounds hs
  have hf2 := flips hs
  rw [hf] at hf2
  have hD : s.nextD = s.left + 82182 := by
    unfold Ras.nextD
    rw [if_neg (by rw [hf]; simp), if_pos (.inl (by omega))]
  have hL : s.left = 89341 - s.pl ∨ s.left = 89342 - s.pl := by
    unfold Ras.left; split
    · exact .inl rfl
    · exact .inr rfl
  refine ⟨by omega, by omega, hf2⟩
end Go.Sx
