/- SxR20: Frames returns true. -/
import Derived.Test.YtmgaphghjhbhhaaSxR19
namespace Go.Sx
open Go.Proofs
set_option linter.unusedVariables false
set_option linter.unusedSimpArgs false

theorem top_at (r : Ras) (o : Bool) (n : Nat) (hn : n ≤ 89340 ∨ (n = 89341 ∧ ¬ (o = true ∧ r.draw = true))) :
    (Ras.its n (r.top o)).pl = n ∧ (Ras.its n (r.top o)).odd = o ∧ (Ras.its n (r.top o)).draw = r.draw ∧ Ras.cks n (r.top o) = if r.draw = true then struck n else 0 := by
  have hf : inFrame (r.top o) ((r.top o).pl + n) := by
    rw [top_pl]; unfold inFrame; rw [top_pl]
    refine ⟨by omega, ?_⟩
    rcases hn with h | h
    · exact .inl (by omega)
    · exact .inr ⟨by omega, .inr h.2⟩
  obtain ⟨i1, i2⟩ := its_jump (top_valid r o) n hf
  have e : (r.top o).pl + (n : Int) = n := by rw [top_pl]; omega
  have z : struck (r.top o).pl = 0 := by rw [top_pl]; rfl
  rw [e] at i1 i2
  rw [z] at i2
  rw [i1, i2, jump_pl]
  refine ⟨rfl, rfl, rfl, ?_⟩
  show (if r.draw = true then struck n - 0 else 0) = _
  split <;> omega

theorem line_dot {r s : Ras} (h : r.valid = true) (h2 : s.valid = true) (e : s.pl = r.pl) : s.line = r.line ∧ s.dot = r.dot := by
  rw [valid_iff] at h h2
  unfold Ras.pl at e; omega

theorem frame_pair {r : Ras} (h : r.valid = true) (hd : r.draw = true) (ho : r.odd = true → r.pl ≤ 89340) :
    (Ras.its 178683 r).pl = r.pl ∧ (Ras.its 178683 r).odd = r.odd ∧ (Ras.its 178683 r).draw = true ∧ Ras.cks 178683 r = 482 := by
  have hl := left_range h
  have hp := pl_range h
  obtain ⟨a1, a2⟩ := its_left h
  obtain ⟨b1, b2⟩ := its_frame r (!r.odd)
  have hL : r.left = if r.odd = true then 89341 - r.pl else 89342 - r.pl := by
    unfold Ras.left
    cases o : r.odd
    · simp
    · simp [ho o, hd]
  have e : 178683 = r.left.toNat + ((if (!r.odd) = true ∧ r.draw = true then 89341 else 89342) + r.pl.toNat) := by
    rw [hL, hd]; cases o : r.odd
    · simp; omega
    · have := ho o; simp; omega
  rw [e, its_add, cks_add, a1, its_add, cks_add, b1, b2, a2]
  have t := top_at r r.odd r.pl.toNat (by
    cases o : r.odd
    · by_cases c : r.pl = 89341
      · exact .inr ⟨by omega, by simp⟩
      · exact .inl (by omega)
    · have := ho o; exact .inl (by omega))
  simp only [Bool.not_not] at *
  obtain ⟨t1, t2, t3, t4⟩ := t
  rw [t1, t2, t3, t4, hd]
  simp only [if_true]
  have : ((r.pl.toNat : Nat) : Int) = r.pl := by omega
  rw [this]
  exact ⟨rfl, trivial, trivial, by omega⟩

theorem cks_off : ∀ (n : Nat) {r : Ras}, r.draw = false → Ras.cks n r = 0
  | 0, r, h => rfl
  | n + 1, r, h => by
    simp only [Ras.cks]
    have hs : r.step.draw = false := h
    rw [cks_off n hs]
    unfold Ras.clock; rw [h]; rfl

theorem off_turn {r : Ras} (h : r.valid = true) (hd : r.draw = false) (n : Nat) : Ras.its ((89342 - r.pl).toNat + n) r = Ras.its n (r.top (!r.odd)) := by
  have hL : r.left = 89342 - r.pl := by unfold Ras.left; rw [hd]; simp
  rw [its_add, ← hL, (its_left h).1]
theorem off_frame (r : Ras) (hd : r.draw = false) (o : Bool) (n : Nat) : Ras.its (89342 + n) (r.top o) = Ras.its n (r.top (!o)) := by
  have := (its_frame r o).1
  rw [if_neg (by rw [hd]; simp)] at this
  rw [its_add, this]

theorem frame_three {r : Ras} (h : r.valid = true) (hd : r.draw = false) : (Ras.its 268026 r).pl = r.pl ∧ (Ras.its 268026 r).odd = !r.odd := by
  have hp := pl_range h
  have e : 268026 = (89342 - r.pl).toNat + (89342 + (89342 + r.pl.toNat)) := by omega
  rw [e, off_turn h hd, off_frame r hd, off_frame r hd]
  have t := top_at r (!!!r.odd) r.pl.toNat (by
    by_cases c : r.pl = 89341
    · exact .inr ⟨by omega, by rw [hd]; simp⟩
    · exact .inl (by omega))
  rw [t.1, t.2.1]
  exact ⟨by omega, by simp⟩

theorem frame_off {r : Ras} (h : r.valid = true) (hd : r.draw = false) : (Ras.its 178683 r).pl ≠ r.pl := by
  have hp := pl_range h
  by_cases c : r.pl = 0
  · have e : 178683 = (89342 - r.pl).toNat + 89341 := by omega
    rw [e, off_turn h hd]
    have t := top_at r (!r.odd) 89341 (.inr ⟨rfl, by rw [hd]; simp⟩)
    rw [t.1]; omega
  · have e : 178683 = (89342 - r.pl).toNat + (89342 + (r.pl.toNat - 1)) := by omega
    rw [e, off_turn h hd, off_frame r hd]
    have t := top_at r (!!r.odd) (r.pl.toNat - 1) (.inl (by omega))
    rw [t.1]; omega

theorem valid_with {r : Ras} (h : r.valid = true) (o n w : Bool) : (Ras.mk r.line r.dot o r.vbl n w r.hold).valid = true := by
  rw [valid_iff] at *; exact h

/-- The law, of a valid raster. -/
theorem frames_all {s : Ras} (hs : s.valid = true) (o : Bool) (ho : o = true → s.pl ≤ 89340) :
    ((Ras.mk s.line s.dot o s.vbl s.nmi true s.hold).advN 59561 = 482 ∧ (Ras.mk s.line s.dot o s.vbl s.nmi false s.hold).advN 89342 = 0) ∧
    (((Ras.mk s.line s.dot o s.vbl s.nmi true s.hold).advR 59561).line = s.line ∧ ((Ras.mk s.line s.dot o s.vbl s.nmi true s.hold).advR 59561).dot = s.dot ∧ ((Ras.mk s.line s.dot o s.vbl s.nmi true s.hold).advR 59561).odd = o ∧ ((Ras.mk s.line s.dot o s.vbl s.nmi true s.hold).advR 59561).draw = true) ∧
    (((Ras.mk s.line s.dot o s.vbl s.nmi false s.hold).advR 89342).line = s.line ∧ ((Ras.mk s.line s.dot o s.vbl s.nmi false s.hold).advR 89342).dot = s.dot ∧ ((Ras.mk s.line s.dot o s.vbl s.nmi false s.hold).advR 89342).odd = !o) ∧
    (((Ras.mk s.line s.dot o s.vbl s.nmi false s.hold).advR 59561).line != s.line || ((Ras.mk s.line s.dot o s.vbl s.nmi false s.hold).advR 59561).dot != s.dot) = true := by
  have v1 := valid_with hs o s.nmi true
  have v2 := valid_with hs o s.nmi false
  have p1 : (Ras.mk s.line s.dot o s.vbl s.nmi true s.hold).pl = s.pl := rfl
  have p2 : (Ras.mk s.line s.dot o s.vbl s.nmi false s.hold).pl = s.pl := rfl
  have d1 : (Ras.mk s.line s.dot o s.vbl s.nmi true s.hold).draw = true := rfl
  have d2 : (Ras.mk s.line s.dot o s.vbl s.nmi false s.hold).draw = false := rfl
  have o1 : (Ras.mk s.line s.dot o s.vbl s.nmi true s.hold).odd = o := rfl
  have o2 : (Ras.mk s.line s.dot o s.vbl s.nmi false s.hold).odd = o := rfl
  generalize Ras.mk s.line s.dot o s.vbl s.nmi true s.hold = a at *
  generalize Ras.mk s.line s.dot o s.vbl s.nmi false s.hold = b at *
  have n1 : 3 * (59561 : Int).toNat = 178683 := by rfl
  have n2 : 3 * (89342 : Int).toNat = 268026 := by rfl
  rw [(advR_eq v1 59561).1, (advR_eq v1 59561).2, (advR_eq v2 89342).1, (advR_eq v2 89342).2, (advR_eq v2 59561).1, n1, n2]
  obtain ⟨f1, f2, f3, f4⟩ := frame_pair v1 d1 (by rw [o1, p1]; exact ho)
  obtain ⟨g1, g2⟩ := frame_three v2 d2
  have g3 := frame_off v2 d2
  have e1 := line_dot hs (its_valid 178683 v1) (by rw [f1, p1])
  have e2 := line_dot hs (its_valid 268026 v2) (by rw [g1, p2])
  refine ⟨⟨f4, cks_off _ d2⟩, ⟨e1.1, e1.2, by rw [f2, o1], f3⟩, ⟨e2.1, e2.2, by rw [g2, o2]⟩, ?_⟩
  cases hb : ((Ras.its 178683 b).line != s.line || (Ras.its 178683 b).dot != s.dot) with
  | true => rfl
  | false =>
    simp at hb
    exfalso; apply g3
    rw [p2]; unfold Ras.pl; rw [hb.1, hb.2]

theorem w8 (svs : List SV) (h : IsL Try.prog 3 [23] svs) : bodyK (E0 g8 noLoop) (callN (E0 g8 noLoop) 1) 8 Try.f8 svs [] (fun x _ => isTrue x) := by
  obtain ⟨a, rfl, h1⟩ := isL1 h
  obtain ⟨r, rfl, hr⟩ := is_ras h1
  rw [t8]
  have hs := near_valid r
  have hp := pl_range hs
  generalize r.nearR = s at *
  have k1 : i64 59561 := by unfold i64; omega
  have k2 : i64 89342 := by unfold i64; omega
  have z1 : IntKind.i64.wrap 482 = 482 := by rfl
  have z2 : IntKind.i64.wrap 0 = 0 := by rfl
  refine ⟨⟨hr⟩, br_in (fun c => ?_) (fun c => ?_)⟩
  · obtain ⟨⟨a1, a2⟩, ⟨b1, b2, b3, b4⟩, ⟨c1, c2, c3⟩, d⟩ := frames_all hs false (by simp)
    rw [a1, a2, b1, b2, b3, b4, c1, c2, c3, z1, z2, d]
    refine ⟨⟨k1⟩, ⟨k2⟩, ?_⟩
    simp [br]
    exact ⟨k1⟩
  · have hc : s.odd = true → s.pl ≤ 89340 := by
      intro _
      rw [valid_iff] at hs
      have : ¬ (s.line = 261 ∧ s.dot = 340) := by
        rintro ⟨e1, e2⟩; rw [e1, e2] at c; simp at c
      unfold Ras.pl; omega
    obtain ⟨⟨a1, a2⟩, ⟨b1, b2, b3, b4⟩, ⟨c1, c2, c3⟩, d⟩ := frames_all hs s.odd hc
    rw [a1, a2, b1, b2, b3, b4, c1, c2, c3, z1, z2, d]
    refine ⟨⟨k1⟩, ⟨k2⟩, ?_⟩
    cases s.odd <;> (simp [br]; exact ⟨k1⟩)
end Go.Sx
