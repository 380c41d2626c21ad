/- SxR9: Toggled returns true. -/
import Derived.Test.YtmgaphghjhbhhaaSxR8
namespace Go.Sx
open Go.Proofs
set_option linter.unusedVariables false
set_option linter.unusedSimpArgs false

theorem byte_all {p : Int → Bool} (h : (List.range 256).all (fun k => p (k : Nat)) = true) {v : Int} (hv : u8 v) : p v = true := by
  obtain ⟨h1, h2⟩ := hv
  have e : v = (v.toNat : Int) := by omega
  rw [List.all_eq_true] at h
  rw [e]
  exact h v.toNat (by simp; omega)

theorem andn128 {v : Int} (h : u8 v) : u8 (iandn .u8 v 128) ∧ decide (128 ≤ iandn .u8 v 128) = false := by
  have := byte_all (p := fun v => decide (0 ≤ iandn .u8 v 128) && decide (iandn .u8 v 128 ≤ 255) && !decide (128 ≤ iandn .u8 v 128)) (by decide +kernel) h
  simp at this
  exact ⟨⟨this.1.1, this.1.2⟩, by simp; exact this.2⟩
theorem or128 {v : Int} (h : u8 v) : u8 (ior .u8 v 128) ∧ decide (128 ≤ ior .u8 v 128) = true := by
  have := byte_all (p := fun v => decide (0 ≤ ior .u8 v 128) && decide (ior .u8 v 128 ≤ 255) && decide (128 ≤ ior .u8 v 128)) (by decide +kernel) h
  simp at this
  exact ⟨⟨this.1.1, this.1.2⟩, by simp; exact this.2⟩
theorem or8 {v : Int} (h : u8 v) : u8 (ior .u8 v 8) ∧ (iand .u8 (ior .u8 v 8) 24 != 0) = true := by
  have := byte_all (p := fun v => decide (0 ≤ ior .u8 v 8) && decide (ior .u8 v 8 ≤ 255) && (iand .u8 (ior .u8 v 8) 24 != 0)) (by decide +kernel) h
  simp at this
  exact ⟨⟨this.1.1, this.1.2⟩, by simp; exact this.2⟩
theorem or16 {v : Int} (h : u8 v) : u8 (ior .u8 v 16) ∧ (iand .u8 (ior .u8 v 16) 24 != 0) = true := by
  have := byte_all (p := fun v => decide (0 ≤ ior .u8 v 16) && decide (ior .u8 v 16 ≤ 255) && (iand .u8 (ior .u8 v 16) 24 != 0)) (by decide +kernel) h
  simp at this
  exact ⟨⟨this.1.1, this.1.2⟩, by simp; exact this.2⟩
theorem andn24 {v : Int} (h : u8 v) : u8 (iandn .u8 v 24) ∧ (iand .u8 (iandn .u8 v 24) 24 != 0) = false := by
  have := byte_all (p := fun v => decide (0 ≤ iandn .u8 v 24) && decide (iandn .u8 v 24 ≤ 255) && !(iand .u8 (iandn .u8 v 24) 24 != 0)) (by decide +kernel) h
  simp at this
  exact ⟨⟨this.1.1, this.1.2⟩, by simp; exact this.2⟩

theorem near_range (r : Ras) : 0 ≤ r.nearR.line ∧ r.nearR.line ≤ 261 ∧ 0 ≤ r.nearR.dot ∧ r.nearR.dot ≤ 340 := by
  have h1 := i64_spf r.line 0 261 (by omega) (by omega)
  have h2 := i64_spf r.dot 0 340 (by omega) (by omega)
  exact ⟨h1.1, h1.2, h2.1, h2.2⟩

theorem valid_tog (r : Ras) (o n w : Bool) : (Ras.mk 250 r.nearR.dot o true n w false).valid = true := by
  have := near_range r
  rw [valid_iff]; simp [Ras.pl]; omega

theorem w3 (svs : List SV) (h : IsL Try.prog 3 [23, 5, 5] svs) : bodyK (E0 g4 noLoop) (callN (E0 g4 noLoop) 1) 3 Try.f3 svs [] (fun x _ => isTrue x) := by
  obtain ⟨a, b, c, rfl, h1, h2, h3⟩ := isL3 h
  obtain ⟨r, rfl, hr⟩ := is_ras h1
  obtain ⟨v, rfl, hv⟩ := is_int und5 h2
  obtain ⟨w, rfl, hw⟩ := is_int und5 h3
  have hv := inK_u8 hv
  have hw := inK_u8 hw
  obtain ⟨c1, d1⟩ := andn128 hv
  obtain ⟨c2, d2⟩ := or128 hv
  obtain ⟨c3, d3⟩ := or8 hw
  obtain ⟨c4, d4⟩ := or16 hw
  obtain ⟨c5, d5⟩ := andn24 hw
  rw [t3]
  simp only [Ras.up, Ras.ctrl, Ras.mask, valid_tog, if_true, d1, d2, d3, d4, d5]
  refine ⟨⟨hr⟩, ⟨c1⟩, ⟨c2⟩, ?_⟩
  simp [br, c1, c2, c3, c4, c5]
  exact ⟨trivial⟩
end Go.Sx
