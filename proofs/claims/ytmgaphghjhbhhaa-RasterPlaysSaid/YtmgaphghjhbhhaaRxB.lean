/-
  SxM3: Advance as a plain law.
  SxR18: laws over Advance: trees.
  SxR19: Adds returns true.
  SxR20: Frames returns true.
  SxR21: Next, After: trees.
  SxR22: raster.Next: contract.
  SxR23: the document's Next: one round of its loop.
  SxR24: the document's Next: its loop's contract.
  SxR25: the document's Next: tree.
  SxR26: Lines, Race: trees.
  SxM4: where the raster stands when the flag has changed.
  SxM5: the shape of a vertical blank: plain law.
  SxR27: Lines returns true.
  SxR28: Race: tree.
  SxR29: Race returns true.
-/
import Derived.Test.YtmgaphghjhbhhaaRxA
namespace Go.Sx
open Go.Proofs
set_option linter.unusedVariables false
set_option linter.unusedSimpArgs false

theorem near_valid (r : Ras) : r.nearR.valid = true := by
  have h := near_range r
  rw [valid_iff]
  have hl : r.nearR.line = spf r.line 0 261 := rfl
  have hd : r.nearR.dot = spf r.dot 0 340 := rfl
  refine ⟨h.1, by omega, h.2.2.1, by omega, fun hv => ?_, fun hh => ?_⟩
  · have hv' : (r.vbl && r.nearL) = true := hv
    simp only [Ras.nearL, Bool.and_eq_true, Bool.or_eq_true, decide_eq_true_eq] at hv'
    unfold Ras.pl; omega
  · have hh' : (r.hold && decide (spf r.line 0 261 = 241 ∧ spf r.dot 0 340 = 0)) = true := hh
    simp only [Bool.and_eq_true, decide_eq_true_eq] at hh'
    unfold Ras.pl; omega

theorem advR_eq {r : Ras} (h : r.valid = true) (n : Int) : r.advR n = Ras.its (3 * n.toNat) r ∧ r.advN n = Ras.cks (3 * n.toNat) r := by
  unfold Ras.advR Ras.advN
  by_cases c : 1 ≤ n
  · rw [if_pos ⟨h, c⟩, if_pos ⟨h, c⟩]; exact ⟨rfl, rfl⟩
  · rw [if_neg (fun k => c k.2), if_neg (fun k => c k.2)]
    have : 3 * n.toNat = 0 := by omega
    rw [this]; exact ⟨rfl, rfl⟩
theorem advR_valid {r : Ras} (h : r.valid = true) (n : Int) : (r.advR n).valid = true := by rw [(advR_eq h n).1]; exact its_valid _ h
theorem advR_add {r : Ras} (h : r.valid = true) {a b : Int} (ha : 0 ≤ a) (hb : 0 ≤ b) : (r.advR a).advR b = r.advR (a + b) ∧ r.advN a + (r.advR a).advN b = r.advN (a + b) := by
  obtain ⟨e1, e2⟩ := advR_eq h a
  obtain ⟨e3, e4⟩ := advR_eq (advR_valid h a) b
  obtain ⟨e5, e6⟩ := advR_eq h (a + b)
  rw [e3, e4, e5, e6, e1, e2]
  have : 3 * (a + b).toNat = 3 * a.toNat + 3 * b.toNat := by omega
  rw [this, its_add, cks_add]; exact ⟨rfl, rfl⟩
theorem advR_one {r : Ras} (h : r.valid = true) : r.advR 1 = r.tickR ∧ r.advN 1 = r.tickN := by
  obtain ⟨e1, e2⟩ := advR_eq h 1
  obtain ⟨e3, e4⟩ := tick_its h
  rw [e1, e2, e3, e4]; exact ⟨rfl, rfl⟩
theorem tickN_le (r : Ras) : 0 ≤ r.tickN ∧ r.tickN ≤ 3 := by
  unfold Ras.tickN
  have := nat01_le r.dotC
  have := nat01_le r.dotR.dotC
  have := nat01_le r.dotR.dotR.dotC
  omega
theorem step_pl (r : Ras) : r.step.pl = nextP r := by unfold Ras.step Ras.goOn Ras.pl; simp only; omega
theorem tick_moves {r : Ras} (h : r.valid = true) : (r.tickR.line == r.line && r.tickR.dot == r.dot) = false := by
  rw [(tick_its h).1]
  have p0 := pl_range h
  have q1 := nextP_cases r
  have q2 := nextP_cases r.step
  have q3 := nextP_cases r.step.step
  have e : (Ras.its 3 r).pl = nextP r.step.step := by
    show r.step.step.step.pl = _
    exact step_pl _
  rw [step_pl] at q2 q3
  rw [← e] at q3
  have hne : (Ras.its 3 r).pl ≠ r.pl := by omega
  cases hb : ((Ras.its 3 r).line == r.line && (Ras.its 3 r).dot == r.dot) with
  | false => rfl
  | true =>
    simp at hb
    exfalso; apply hne
    unfold Ras.pl; rw [hb.1, hb.2]
theorem wrap_wrap (a b : Int) : IntKind.i64.wrap (IntKind.i64.wrap a + IntKind.i64.wrap b) = IntKind.i64.wrap (a + b) := by
  simp only [IntKind.wrap_i64]; omega
end Go.Sx

namespace Go.Sx
open Go.Proofs
set_option linter.unusedVariables false
set_option linter.unusedSimpArgs false
def g8 : List (Nat × Con) := (34, cAdv) :: (35, cAdv) :: g4

theorem t7 (r : Ras) (n : Int) : bodyK (E0 g8 noLoop) (callN (E0 g8 noLoop) 1) 7 Try.f7 [r.sv, .i .i64 n] [] (fun x _ => isTrue x) = (
  Chk (i64 n) ∧ Chk (i64 n) ∧ ((r.advR n).line == (r.advR n).line && ((r.advR n).dot == (r.advR n).dot && ((r.advR n).odd == (r.advR n).odd && ((r.advR n).vbl == (r.advR n).vbl && ((r.advR n).nmi == (r.advR n).nmi && ((r.advR n).draw == (r.advR n).draw && ((r.advR n).hold == (r.advR n).hold && true)))))) && IntKind.i64.wrap (r.advN n) == IntKind.i64.wrap (r.advN n)) = true) := by kernel_rfl
theorem t8 (r : Ras) : bodyK (E0 g8 noLoop) (callN (E0 g8 noLoop) 1) 8 Try.f8 [r.sv] [] (fun x _ => isTrue x) = (
  Chk r.fit ∧
  br (r.nearR.line == 261 && r.nearR.dot == 340)
    (Chk (i64 59561) ∧
      Chk (i64 89342) ∧
        br
          (IntKind.i64.wrap ((Ras.mk r.nearR.line r.nearR.dot false r.nearR.vbl r.nearR.nmi true r.nearR.hold).advN 59561) != 482 || IntKind.i64.wrap ((Ras.mk r.nearR.line r.nearR.dot false r.nearR.vbl r.nearR.nmi false r.nearR.hold).advN 89342) != 0 || ((Ras.mk r.nearR.line r.nearR.dot false r.nearR.vbl r.nearR.nmi true r.nearR.hold).advR 59561).line != r.nearR.line ||
                ((Ras.mk r.nearR.line r.nearR.dot false r.nearR.vbl r.nearR.nmi true r.nearR.hold).advR 59561).dot != r.nearR.dot ||
              !((Ras.mk r.nearR.line r.nearR.dot false r.nearR.vbl r.nearR.nmi true r.nearR.hold).advR 59561).odd == false ||
            !((Ras.mk r.nearR.line r.nearR.dot false r.nearR.vbl r.nearR.nmi true r.nearR.hold).advR 59561).draw)
          (false = true)
          (Chk (i64 59561) ∧
            (((Ras.mk r.nearR.line r.nearR.dot false r.nearR.vbl r.nearR.nmi false r.nearR.hold).advR 89342).line == r.nearR.line && ((Ras.mk r.nearR.line r.nearR.dot false r.nearR.vbl r.nearR.nmi false r.nearR.hold).advR 89342).dot == r.nearR.dot && !((Ras.mk r.nearR.line r.nearR.dot false r.nearR.vbl r.nearR.nmi false r.nearR.hold).advR 89342).odd == false &&
                (((Ras.mk r.nearR.line r.nearR.dot false r.nearR.vbl r.nearR.nmi false r.nearR.hold).advR 59561).line != r.nearR.line || ((Ras.mk r.nearR.line r.nearR.dot false r.nearR.vbl r.nearR.nmi false r.nearR.hold).advR 59561).dot != r.nearR.dot)) =
              true))
    (Chk (i64 59561) ∧
      Chk (i64 89342) ∧
        br
          (IntKind.i64.wrap ((Ras.mk r.nearR.line r.nearR.dot r.nearR.odd r.nearR.vbl r.nearR.nmi true r.nearR.hold).advN 59561) != 482 || IntKind.i64.wrap ((Ras.mk r.nearR.line r.nearR.dot r.nearR.odd r.nearR.vbl r.nearR.nmi false r.nearR.hold).advN 89342) != 0 || ((Ras.mk r.nearR.line r.nearR.dot r.nearR.odd r.nearR.vbl r.nearR.nmi true r.nearR.hold).advR 59561).line != r.nearR.line ||
                ((Ras.mk r.nearR.line r.nearR.dot r.nearR.odd r.nearR.vbl r.nearR.nmi true r.nearR.hold).advR 59561).dot != r.nearR.dot ||
              !((Ras.mk r.nearR.line r.nearR.dot r.nearR.odd r.nearR.vbl r.nearR.nmi true r.nearR.hold).advR 59561).odd == r.nearR.odd ||
            !((Ras.mk r.nearR.line r.nearR.dot r.nearR.odd r.nearR.vbl r.nearR.nmi true r.nearR.hold).advR 59561).draw)
          (false = true)
          (Chk (i64 59561) ∧
            (((Ras.mk r.nearR.line r.nearR.dot r.nearR.odd r.nearR.vbl r.nearR.nmi false r.nearR.hold).advR 89342).line == r.nearR.line && ((Ras.mk r.nearR.line r.nearR.dot r.nearR.odd r.nearR.vbl r.nearR.nmi false r.nearR.hold).advR 89342).dot == r.nearR.dot && !((Ras.mk r.nearR.line r.nearR.dot r.nearR.odd r.nearR.vbl r.nearR.nmi false r.nearR.hold).advR 89342).odd == r.nearR.odd &&
                (((Ras.mk r.nearR.line r.nearR.dot r.nearR.odd r.nearR.vbl r.nearR.nmi false r.nearR.hold).advR 59561).line != r.nearR.line || ((Ras.mk r.nearR.line r.nearR.dot r.nearR.odd r.nearR.vbl r.nearR.nmi false r.nearR.hold).advR 59561).dot != r.nearR.dot)) =
              true))) := by kernel_rfl
theorem t9 (r : Ras) (a b : Int) : bodyK (E0 g8 noLoop) (callN (E0 g8 noLoop) 1) 9 Try.f9 [r.sv, .i .i64 a, .i .i64 b] [] (fun x _ => isTrue x) = (
  Chk r.fit ∧
  Chk (spanOK a 0 2305843009213693952) ∧
    Chk (spanOK b 0 2305843009213693952) ∧
      Chk (i64 (spf a 0 2305843009213693952)) ∧
        Chk (i64 (spf b 0 2305843009213693952)) ∧
          Chk (i64 (IntKind.i64.wrap (spf a 0 2305843009213693952 + spf b 0 2305843009213693952))) ∧
            br
              (!(!(((r.nearR.advR (spf a 0 2305843009213693952)).advR (spf b 0 2305843009213693952)).line == (r.nearR.advR (IntKind.i64.wrap (spf a 0 2305843009213693952 + spf b 0 2305843009213693952))).line &&
                        (((r.nearR.advR (spf a 0 2305843009213693952)).advR (spf b 0 2305843009213693952)).dot == (r.nearR.advR (IntKind.i64.wrap (spf a 0 2305843009213693952 + spf b 0 2305843009213693952))).dot &&
                          (((r.nearR.advR (spf a 0 2305843009213693952)).advR (spf b 0 2305843009213693952)).odd == (r.nearR.advR (IntKind.i64.wrap (spf a 0 2305843009213693952 + spf b 0 2305843009213693952))).odd &&
                            (((r.nearR.advR (spf a 0 2305843009213693952)).advR (spf b 0 2305843009213693952)).vbl == (r.nearR.advR (IntKind.i64.wrap (spf a 0 2305843009213693952 + spf b 0 2305843009213693952))).vbl &&
                              (((r.nearR.advR (spf a 0 2305843009213693952)).advR (spf b 0 2305843009213693952)).nmi == (r.nearR.advR (IntKind.i64.wrap (spf a 0 2305843009213693952 + spf b 0 2305843009213693952))).nmi &&
                                (((r.nearR.advR (spf a 0 2305843009213693952)).advR (spf b 0 2305843009213693952)).draw == (r.nearR.advR (IntKind.i64.wrap (spf a 0 2305843009213693952 + spf b 0 2305843009213693952))).draw &&
                                  (((r.nearR.advR (spf a 0 2305843009213693952)).advR (spf b 0 2305843009213693952)).hold == (r.nearR.advR (IntKind.i64.wrap (spf a 0 2305843009213693952 + spf b 0 2305843009213693952))).hold && true))))))) ||
                    IntKind.i64.wrap (IntKind.i64.wrap (r.nearR.advN (spf a 0 2305843009213693952)) + IntKind.i64.wrap ((r.nearR.advR (spf a 0 2305843009213693952)).advN (spf b 0 2305843009213693952))) != IntKind.i64.wrap (r.nearR.advN (IntKind.i64.wrap (spf a 0 2305843009213693952 + spf b 0 2305843009213693952)))) &&
                true)
              (True ∧
                br
                  (!(((r.nearR.advR (spf a 0 2305843009213693952)).advR (spf b 0 2305843009213693952)).line == (r.nearR.advR (IntKind.i64.wrap (spf a 0 2305843009213693952 + spf b 0 2305843009213693952))).line &&
                          (((r.nearR.advR (spf a 0 2305843009213693952)).advR (spf b 0 2305843009213693952)).dot == (r.nearR.advR (IntKind.i64.wrap (spf a 0 2305843009213693952 + spf b 0 2305843009213693952))).dot &&
                            (((r.nearR.advR (spf a 0 2305843009213693952)).advR (spf b 0 2305843009213693952)).odd == (r.nearR.advR (IntKind.i64.wrap (spf a 0 2305843009213693952 + spf b 0 2305843009213693952))).odd &&
                              (((r.nearR.advR (spf a 0 2305843009213693952)).advR (spf b 0 2305843009213693952)).vbl == (r.nearR.advR (IntKind.i64.wrap (spf a 0 2305843009213693952 + spf b 0 2305843009213693952))).vbl &&
                                (((r.nearR.advR (spf a 0 2305843009213693952)).advR (spf b 0 2305843009213693952)).nmi == (r.nearR.advR (IntKind.i64.wrap (spf a 0 2305843009213693952 + spf b 0 2305843009213693952))).nmi &&
                                  (((r.nearR.advR (spf a 0 2305843009213693952)).advR (spf b 0 2305843009213693952)).draw == (r.nearR.advR (IntKind.i64.wrap (spf a 0 2305843009213693952 + spf b 0 2305843009213693952))).draw &&
                                    (((r.nearR.advR (spf a 0 2305843009213693952)).advR (spf b 0 2305843009213693952)).hold == (r.nearR.advR (IntKind.i64.wrap (spf a 0 2305843009213693952 + spf b 0 2305843009213693952))).hold && true))))))) ||
                      IntKind.i64.wrap (IntKind.i64.wrap (r.nearR.advN (spf a 0 2305843009213693952)) + IntKind.i64.wrap ((r.nearR.advR (spf a 0 2305843009213693952)).advN (spf b 0 2305843009213693952))) != IntKind.i64.wrap (r.nearR.advN (IntKind.i64.wrap (spf a 0 2305843009213693952 + spf b 0 2305843009213693952))) ||
                    !(r.nearR.advR (spf a 0 2305843009213693952)).valid)
                  (false = true)
                  (Chk (i64 1) ∧
                    True ∧
                      br
                        (!(((r.nearR.advR (spf a 0 2305843009213693952)).advR 1).line == (r.nearR.advR (spf a 0 2305843009213693952)).tickR.line &&
                                (((r.nearR.advR (spf a 0 2305843009213693952)).advR 1).dot == (r.nearR.advR (spf a 0 2305843009213693952)).tickR.dot &&
                                  (((r.nearR.advR (spf a 0 2305843009213693952)).advR 1).odd == (r.nearR.advR (spf a 0 2305843009213693952)).tickR.odd &&
                                    (((r.nearR.advR (spf a 0 2305843009213693952)).advR 1).vbl == (r.nearR.advR (spf a 0 2305843009213693952)).tickR.vbl &&
                                      (((r.nearR.advR (spf a 0 2305843009213693952)).advR 1).nmi == (r.nearR.advR (spf a 0 2305843009213693952)).tickR.nmi &&
                                        (((r.nearR.advR (spf a 0 2305843009213693952)).advR 1).draw == (r.nearR.advR (spf a 0 2305843009213693952)).tickR.draw && (((r.nearR.advR (spf a 0 2305843009213693952)).advR 1).hold == (r.nearR.advR (spf a 0 2305843009213693952)).tickR.hold && true))))))) ||
                            IntKind.i64.wrap ((r.nearR.advR (spf a 0 2305843009213693952)).advN 1) != (r.nearR.advR (spf a 0 2305843009213693952)).tickN ||
                          (r.nearR.advR (spf a 0 2305843009213693952)).tickR.line == (r.nearR.advR (spf a 0 2305843009213693952)).line && (r.nearR.advR (spf a 0 2305843009213693952)).tickR.dot == (r.nearR.advR (spf a 0 2305843009213693952)).dot)
                        (false = true)
                        (True ∧
                          True ∧
                            True ∧
                              br (r.nearR.advR (spf a 0 2305843009213693952)).dotC
                                (br (r.nearR.advR (spf a 0 2305843009213693952)).dotR.dotC
                                  (br (r.nearR.advR (spf a 0 2305843009213693952)).dotR.dotR.dotC
                                    (((r.nearR.advR (spf a 0 2305843009213693952)).dotR.dotR.dotR.line == (r.nearR.advR (spf a 0 2305843009213693952)).tickR.line &&
                                          ((r.nearR.advR (spf a 0 2305843009213693952)).dotR.dotR.dotR.dot == (r.nearR.advR (spf a 0 2305843009213693952)).tickR.dot &&
                                            ((r.nearR.advR (spf a 0 2305843009213693952)).dotR.dotR.dotR.odd == (r.nearR.advR (spf a 0 2305843009213693952)).tickR.odd &&
                                              ((r.nearR.advR (spf a 0 2305843009213693952)).dotR.dotR.dotR.vbl == (r.nearR.advR (spf a 0 2305843009213693952)).tickR.vbl &&
                                                ((r.nearR.advR (spf a 0 2305843009213693952)).dotR.dotR.dotR.nmi == (r.nearR.advR (spf a 0 2305843009213693952)).tickR.nmi &&
                                                  ((r.nearR.advR (spf a 0 2305843009213693952)).dotR.dotR.dotR.draw == (r.nearR.advR (spf a 0 2305843009213693952)).tickR.draw && ((r.nearR.advR (spf a 0 2305843009213693952)).dotR.dotR.dotR.hold == (r.nearR.advR (spf a 0 2305843009213693952)).tickR.hold && true)))))) &&
                                        IntKind.i64.wrap (IntKind.i64.wrap (IntKind.i64.wrap (0 + 1) + 1) + 1) == (r.nearR.advR (spf a 0 2305843009213693952)).tickN) =
                                      true)
                                    (((r.nearR.advR (spf a 0 2305843009213693952)).dotR.dotR.dotR.line == (r.nearR.advR (spf a 0 2305843009213693952)).tickR.line &&
                                          ((r.nearR.advR (spf a 0 2305843009213693952)).dotR.dotR.dotR.dot == (r.nearR.advR (spf a 0 2305843009213693952)).tickR.dot &&
                                            ((r.nearR.advR (spf a 0 2305843009213693952)).dotR.dotR.dotR.odd == (r.nearR.advR (spf a 0 2305843009213693952)).tickR.odd &&
                                              ((r.nearR.advR (spf a 0 2305843009213693952)).dotR.dotR.dotR.vbl == (r.nearR.advR (spf a 0 2305843009213693952)).tickR.vbl &&
                                                ((r.nearR.advR (spf a 0 2305843009213693952)).dotR.dotR.dotR.nmi == (r.nearR.advR (spf a 0 2305843009213693952)).tickR.nmi &&
                                                  ((r.nearR.advR (spf a 0 2305843009213693952)).dotR.dotR.dotR.draw == (r.nearR.advR (spf a 0 2305843009213693952)).tickR.draw && ((r.nearR.advR (spf a 0 2305843009213693952)).dotR.dotR.dotR.hold == (r.nearR.advR (spf a 0 2305843009213693952)).tickR.hold && true)))))) &&
                                        IntKind.i64.wrap (IntKind.i64.wrap (0 + 1) + 1) == (r.nearR.advR (spf a 0 2305843009213693952)).tickN) =
                                      true))
                                  (br (r.nearR.advR (spf a 0 2305843009213693952)).dotR.dotR.dotC
                                    (((r.nearR.advR (spf a 0 2305843009213693952)).dotR.dotR.dotR.line == (r.nearR.advR (spf a 0 2305843009213693952)).tickR.line &&
                                          ((r.nearR.advR (spf a 0 2305843009213693952)).dotR.dotR.dotR.dot == (r.nearR.advR (spf a 0 2305843009213693952)).tickR.dot &&
                                            ((r.nearR.advR (spf a 0 2305843009213693952)).dotR.dotR.dotR.odd == (r.nearR.advR (spf a 0 2305843009213693952)).tickR.odd &&
                                              ((r.nearR.advR (spf a 0 2305843009213693952)).dotR.dotR.dotR.vbl == (r.nearR.advR (spf a 0 2305843009213693952)).tickR.vbl &&
                                                ((r.nearR.advR (spf a 0 2305843009213693952)).dotR.dotR.dotR.nmi == (r.nearR.advR (spf a 0 2305843009213693952)).tickR.nmi &&
                                                  ((r.nearR.advR (spf a 0 2305843009213693952)).dotR.dotR.dotR.draw == (r.nearR.advR (spf a 0 2305843009213693952)).tickR.draw && ((r.nearR.advR (spf a 0 2305843009213693952)).dotR.dotR.dotR.hold == (r.nearR.advR (spf a 0 2305843009213693952)).tickR.hold && true)))))) &&
                                        IntKind.i64.wrap (IntKind.i64.wrap (0 + 1) + 1) == (r.nearR.advR (spf a 0 2305843009213693952)).tickN) =
                                      true)
                                    (((r.nearR.advR (spf a 0 2305843009213693952)).dotR.dotR.dotR.line == (r.nearR.advR (spf a 0 2305843009213693952)).tickR.line &&
                                          ((r.nearR.advR (spf a 0 2305843009213693952)).dotR.dotR.dotR.dot == (r.nearR.advR (spf a 0 2305843009213693952)).tickR.dot &&
                                            ((r.nearR.advR (spf a 0 2305843009213693952)).dotR.dotR.dotR.odd == (r.nearR.advR (spf a 0 2305843009213693952)).tickR.odd &&
                                              ((r.nearR.advR (spf a 0 2305843009213693952)).dotR.dotR.dotR.vbl == (r.nearR.advR (spf a 0 2305843009213693952)).tickR.vbl &&
                                                ((r.nearR.advR (spf a 0 2305843009213693952)).dotR.dotR.dotR.nmi == (r.nearR.advR (spf a 0 2305843009213693952)).tickR.nmi &&
                                                  ((r.nearR.advR (spf a 0 2305843009213693952)).dotR.dotR.dotR.draw == (r.nearR.advR (spf a 0 2305843009213693952)).tickR.draw && ((r.nearR.advR (spf a 0 2305843009213693952)).dotR.dotR.dotR.hold == (r.nearR.advR (spf a 0 2305843009213693952)).tickR.hold && true)))))) &&
                                        IntKind.i64.wrap (0 + 1) == (r.nearR.advR (spf a 0 2305843009213693952)).tickN) =
                                      true)))
                                (br (r.nearR.advR (spf a 0 2305843009213693952)).dotR.dotC
                                  (br (r.nearR.advR (spf a 0 2305843009213693952)).dotR.dotR.dotC
                                    (((r.nearR.advR (spf a 0 2305843009213693952)).dotR.dotR.dotR.line == (r.nearR.advR (spf a 0 2305843009213693952)).tickR.line &&
                                          ((r.nearR.advR (spf a 0 2305843009213693952)).dotR.dotR.dotR.dot == (r.nearR.advR (spf a 0 2305843009213693952)).tickR.dot &&
                                            ((r.nearR.advR (spf a 0 2305843009213693952)).dotR.dotR.dotR.odd == (r.nearR.advR (spf a 0 2305843009213693952)).tickR.odd &&
                                              ((r.nearR.advR (spf a 0 2305843009213693952)).dotR.dotR.dotR.vbl == (r.nearR.advR (spf a 0 2305843009213693952)).tickR.vbl &&
                                                ((r.nearR.advR (spf a 0 2305843009213693952)).dotR.dotR.dotR.nmi == (r.nearR.advR (spf a 0 2305843009213693952)).tickR.nmi &&
                                                  ((r.nearR.advR (spf a 0 2305843009213693952)).dotR.dotR.dotR.draw == (r.nearR.advR (spf a 0 2305843009213693952)).tickR.draw && ((r.nearR.advR (spf a 0 2305843009213693952)).dotR.dotR.dotR.hold == (r.nearR.advR (spf a 0 2305843009213693952)).tickR.hold && true)))))) &&
                                        IntKind.i64.wrap (IntKind.i64.wrap (0 + 1) + 1) == (r.nearR.advR (spf a 0 2305843009213693952)).tickN) =
                                      true)
                                    (((r.nearR.advR (spf a 0 2305843009213693952)).dotR.dotR.dotR.line == (r.nearR.advR (spf a 0 2305843009213693952)).tickR.line &&
                                          ((r.nearR.advR (spf a 0 2305843009213693952)).dotR.dotR.dotR.dot == (r.nearR.advR (spf a 0 2305843009213693952)).tickR.dot &&
                                            ((r.nearR.advR (spf a 0 2305843009213693952)).dotR.dotR.dotR.odd == (r.nearR.advR (spf a 0 2305843009213693952)).tickR.odd &&
                                              ((r.nearR.advR (spf a 0 2305843009213693952)).dotR.dotR.dotR.vbl == (r.nearR.advR (spf a 0 2305843009213693952)).tickR.vbl &&
                                                ((r.nearR.advR (spf a 0 2305843009213693952)).dotR.dotR.dotR.nmi == (r.nearR.advR (spf a 0 2305843009213693952)).tickR.nmi &&
                                                  ((r.nearR.advR (spf a 0 2305843009213693952)).dotR.dotR.dotR.draw == (r.nearR.advR (spf a 0 2305843009213693952)).tickR.draw && ((r.nearR.advR (spf a 0 2305843009213693952)).dotR.dotR.dotR.hold == (r.nearR.advR (spf a 0 2305843009213693952)).tickR.hold && true)))))) &&
                                        IntKind.i64.wrap (0 + 1) == (r.nearR.advR (spf a 0 2305843009213693952)).tickN) =
                                      true))
                                  (br (r.nearR.advR (spf a 0 2305843009213693952)).dotR.dotR.dotC
                                    (((r.nearR.advR (spf a 0 2305843009213693952)).dotR.dotR.dotR.line == (r.nearR.advR (spf a 0 2305843009213693952)).tickR.line &&
                                          ((r.nearR.advR (spf a 0 2305843009213693952)).dotR.dotR.dotR.dot == (r.nearR.advR (spf a 0 2305843009213693952)).tickR.dot &&
                                            ((r.nearR.advR (spf a 0 2305843009213693952)).dotR.dotR.dotR.odd == (r.nearR.advR (spf a 0 2305843009213693952)).tickR.odd &&
                                              ((r.nearR.advR (spf a 0 2305843009213693952)).dotR.dotR.dotR.vbl == (r.nearR.advR (spf a 0 2305843009213693952)).tickR.vbl &&
                                                ((r.nearR.advR (spf a 0 2305843009213693952)).dotR.dotR.dotR.nmi == (r.nearR.advR (spf a 0 2305843009213693952)).tickR.nmi &&
                                                  ((r.nearR.advR (spf a 0 2305843009213693952)).dotR.dotR.dotR.draw == (r.nearR.advR (spf a 0 2305843009213693952)).tickR.draw && ((r.nearR.advR (spf a 0 2305843009213693952)).dotR.dotR.dotR.hold == (r.nearR.advR (spf a 0 2305843009213693952)).tickR.hold && true)))))) &&
                                        IntKind.i64.wrap (0 + 1) == (r.nearR.advR (spf a 0 2305843009213693952)).tickN) =
                                      true)
                                    (((r.nearR.advR (spf a 0 2305843009213693952)).dotR.dotR.dotR.line == (r.nearR.advR (spf a 0 2305843009213693952)).tickR.line &&
                                          ((r.nearR.advR (spf a 0 2305843009213693952)).dotR.dotR.dotR.dot == (r.nearR.advR (spf a 0 2305843009213693952)).tickR.dot &&
                                            ((r.nearR.advR (spf a 0 2305843009213693952)).dotR.dotR.dotR.odd == (r.nearR.advR (spf a 0 2305843009213693952)).tickR.odd &&
                                              ((r.nearR.advR (spf a 0 2305843009213693952)).dotR.dotR.dotR.vbl == (r.nearR.advR (spf a 0 2305843009213693952)).tickR.vbl &&
                                                ((r.nearR.advR (spf a 0 2305843009213693952)).dotR.dotR.dotR.nmi == (r.nearR.advR (spf a 0 2305843009213693952)).tickR.nmi &&
                                                  ((r.nearR.advR (spf a 0 2305843009213693952)).dotR.dotR.dotR.draw == (r.nearR.advR (spf a 0 2305843009213693952)).tickR.draw && ((r.nearR.advR (spf a 0 2305843009213693952)).dotR.dotR.dotR.hold == (r.nearR.advR (spf a 0 2305843009213693952)).tickR.hold && true)))))) &&
                                        0 == (r.nearR.advR (spf a 0 2305843009213693952)).tickN) =
                                      true))))))
              (br
                (!(((r.nearR.advR (spf a 0 2305843009213693952)).advR (spf b 0 2305843009213693952)).line == (r.nearR.advR (IntKind.i64.wrap (spf a 0 2305843009213693952 + spf b 0 2305843009213693952))).line &&
                        (((r.nearR.advR (spf a 0 2305843009213693952)).advR (spf b 0 2305843009213693952)).dot == (r.nearR.advR (IntKind.i64.wrap (spf a 0 2305843009213693952 + spf b 0 2305843009213693952))).dot &&
                          (((r.nearR.advR (spf a 0 2305843009213693952)).advR (spf b 0 2305843009213693952)).odd == (r.nearR.advR (IntKind.i64.wrap (spf a 0 2305843009213693952 + spf b 0 2305843009213693952))).odd &&
                            (((r.nearR.advR (spf a 0 2305843009213693952)).advR (spf b 0 2305843009213693952)).vbl == (r.nearR.advR (IntKind.i64.wrap (spf a 0 2305843009213693952 + spf b 0 2305843009213693952))).vbl &&
                              (((r.nearR.advR (spf a 0 2305843009213693952)).advR (spf b 0 2305843009213693952)).nmi == (r.nearR.advR (IntKind.i64.wrap (spf a 0 2305843009213693952 + spf b 0 2305843009213693952))).nmi &&
                                (((r.nearR.advR (spf a 0 2305843009213693952)).advR (spf b 0 2305843009213693952)).draw == (r.nearR.advR (IntKind.i64.wrap (spf a 0 2305843009213693952 + spf b 0 2305843009213693952))).draw &&
                                  (((r.nearR.advR (spf a 0 2305843009213693952)).advR (spf b 0 2305843009213693952)).hold == (r.nearR.advR (IntKind.i64.wrap (spf a 0 2305843009213693952 + spf b 0 2305843009213693952))).hold && true))))))) ||
                    IntKind.i64.wrap (IntKind.i64.wrap (r.nearR.advN (spf a 0 2305843009213693952)) + IntKind.i64.wrap ((r.nearR.advR (spf a 0 2305843009213693952)).advN (spf b 0 2305843009213693952))) != IntKind.i64.wrap (r.nearR.advN (IntKind.i64.wrap (spf a 0 2305843009213693952 + spf b 0 2305843009213693952))) ||
                  !false)
                (false = true)
                (Chk (i64 1) ∧
                  True ∧
                    br
                      (!(((r.nearR.advR (spf a 0 2305843009213693952)).advR 1).line == (r.nearR.advR (spf a 0 2305843009213693952)).tickR.line &&
                              (((r.nearR.advR (spf a 0 2305843009213693952)).advR 1).dot == (r.nearR.advR (spf a 0 2305843009213693952)).tickR.dot &&
                                (((r.nearR.advR (spf a 0 2305843009213693952)).advR 1).odd == (r.nearR.advR (spf a 0 2305843009213693952)).tickR.odd &&
                                  (((r.nearR.advR (spf a 0 2305843009213693952)).advR 1).vbl == (r.nearR.advR (spf a 0 2305843009213693952)).tickR.vbl &&
                                    (((r.nearR.advR (spf a 0 2305843009213693952)).advR 1).nmi == (r.nearR.advR (spf a 0 2305843009213693952)).tickR.nmi &&
                                      (((r.nearR.advR (spf a 0 2305843009213693952)).advR 1).draw == (r.nearR.advR (spf a 0 2305843009213693952)).tickR.draw && (((r.nearR.advR (spf a 0 2305843009213693952)).advR 1).hold == (r.nearR.advR (spf a 0 2305843009213693952)).tickR.hold && true))))))) ||
                          IntKind.i64.wrap ((r.nearR.advR (spf a 0 2305843009213693952)).advN 1) != (r.nearR.advR (spf a 0 2305843009213693952)).tickN ||
                        (r.nearR.advR (spf a 0 2305843009213693952)).tickR.line == (r.nearR.advR (spf a 0 2305843009213693952)).line && (r.nearR.advR (spf a 0 2305843009213693952)).tickR.dot == (r.nearR.advR (spf a 0 2305843009213693952)).dot)
                      (false = true)
                      (True ∧
                        True ∧
                          True ∧
                            br (r.nearR.advR (spf a 0 2305843009213693952)).dotC
                              (br (r.nearR.advR (spf a 0 2305843009213693952)).dotR.dotC
                                (br (r.nearR.advR (spf a 0 2305843009213693952)).dotR.dotR.dotC
                                  (((r.nearR.advR (spf a 0 2305843009213693952)).dotR.dotR.dotR.line == (r.nearR.advR (spf a 0 2305843009213693952)).tickR.line &&
                                        ((r.nearR.advR (spf a 0 2305843009213693952)).dotR.dotR.dotR.dot == (r.nearR.advR (spf a 0 2305843009213693952)).tickR.dot &&
                                          ((r.nearR.advR (spf a 0 2305843009213693952)).dotR.dotR.dotR.odd == (r.nearR.advR (spf a 0 2305843009213693952)).tickR.odd &&
                                            ((r.nearR.advR (spf a 0 2305843009213693952)).dotR.dotR.dotR.vbl == (r.nearR.advR (spf a 0 2305843009213693952)).tickR.vbl &&
                                              ((r.nearR.advR (spf a 0 2305843009213693952)).dotR.dotR.dotR.nmi == (r.nearR.advR (spf a 0 2305843009213693952)).tickR.nmi &&
                                                ((r.nearR.advR (spf a 0 2305843009213693952)).dotR.dotR.dotR.draw == (r.nearR.advR (spf a 0 2305843009213693952)).tickR.draw && ((r.nearR.advR (spf a 0 2305843009213693952)).dotR.dotR.dotR.hold == (r.nearR.advR (spf a 0 2305843009213693952)).tickR.hold && true)))))) &&
                                      IntKind.i64.wrap (IntKind.i64.wrap (IntKind.i64.wrap (0 + 1) + 1) + 1) == (r.nearR.advR (spf a 0 2305843009213693952)).tickN) =
                                    true)
                                  (((r.nearR.advR (spf a 0 2305843009213693952)).dotR.dotR.dotR.line == (r.nearR.advR (spf a 0 2305843009213693952)).tickR.line &&
                                        ((r.nearR.advR (spf a 0 2305843009213693952)).dotR.dotR.dotR.dot == (r.nearR.advR (spf a 0 2305843009213693952)).tickR.dot &&
                                          ((r.nearR.advR (spf a 0 2305843009213693952)).dotR.dotR.dotR.odd == (r.nearR.advR (spf a 0 2305843009213693952)).tickR.odd &&
                                            ((r.nearR.advR (spf a 0 2305843009213693952)).dotR.dotR.dotR.vbl == (r.nearR.advR (spf a 0 2305843009213693952)).tickR.vbl &&
                                              ((r.nearR.advR (spf a 0 2305843009213693952)).dotR.dotR.dotR.nmi == (r.nearR.advR (spf a 0 2305843009213693952)).tickR.nmi &&
                                                ((r.nearR.advR (spf a 0 2305843009213693952)).dotR.dotR.dotR.draw == (r.nearR.advR (spf a 0 2305843009213693952)).tickR.draw && ((r.nearR.advR (spf a 0 2305843009213693952)).dotR.dotR.dotR.hold == (r.nearR.advR (spf a 0 2305843009213693952)).tickR.hold && true)))))) &&
                                      IntKind.i64.wrap (IntKind.i64.wrap (0 + 1) + 1) == (r.nearR.advR (spf a 0 2305843009213693952)).tickN) =
                                    true))
                                (br (r.nearR.advR (spf a 0 2305843009213693952)).dotR.dotR.dotC
                                  (((r.nearR.advR (spf a 0 2305843009213693952)).dotR.dotR.dotR.line == (r.nearR.advR (spf a 0 2305843009213693952)).tickR.line &&
                                        ((r.nearR.advR (spf a 0 2305843009213693952)).dotR.dotR.dotR.dot == (r.nearR.advR (spf a 0 2305843009213693952)).tickR.dot &&
                                          ((r.nearR.advR (spf a 0 2305843009213693952)).dotR.dotR.dotR.odd == (r.nearR.advR (spf a 0 2305843009213693952)).tickR.odd &&
                                            ((r.nearR.advR (spf a 0 2305843009213693952)).dotR.dotR.dotR.vbl == (r.nearR.advR (spf a 0 2305843009213693952)).tickR.vbl &&
                                              ((r.nearR.advR (spf a 0 2305843009213693952)).dotR.dotR.dotR.nmi == (r.nearR.advR (spf a 0 2305843009213693952)).tickR.nmi &&
                                                ((r.nearR.advR (spf a 0 2305843009213693952)).dotR.dotR.dotR.draw == (r.nearR.advR (spf a 0 2305843009213693952)).tickR.draw && ((r.nearR.advR (spf a 0 2305843009213693952)).dotR.dotR.dotR.hold == (r.nearR.advR (spf a 0 2305843009213693952)).tickR.hold && true)))))) &&
                                      IntKind.i64.wrap (IntKind.i64.wrap (0 + 1) + 1) == (r.nearR.advR (spf a 0 2305843009213693952)).tickN) =
                                    true)
                                  (((r.nearR.advR (spf a 0 2305843009213693952)).dotR.dotR.dotR.line == (r.nearR.advR (spf a 0 2305843009213693952)).tickR.line &&
                                        ((r.nearR.advR (spf a 0 2305843009213693952)).dotR.dotR.dotR.dot == (r.nearR.advR (spf a 0 2305843009213693952)).tickR.dot &&
                                          ((r.nearR.advR (spf a 0 2305843009213693952)).dotR.dotR.dotR.odd == (r.nearR.advR (spf a 0 2305843009213693952)).tickR.odd &&
                                            ((r.nearR.advR (spf a 0 2305843009213693952)).dotR.dotR.dotR.vbl == (r.nearR.advR (spf a 0 2305843009213693952)).tickR.vbl &&
                                              ((r.nearR.advR (spf a 0 2305843009213693952)).dotR.dotR.dotR.nmi == (r.nearR.advR (spf a 0 2305843009213693952)).tickR.nmi &&
                                                ((r.nearR.advR (spf a 0 2305843009213693952)).dotR.dotR.dotR.draw == (r.nearR.advR (spf a 0 2305843009213693952)).tickR.draw && ((r.nearR.advR (spf a 0 2305843009213693952)).dotR.dotR.dotR.hold == (r.nearR.advR (spf a 0 2305843009213693952)).tickR.hold && true)))))) &&
                                      IntKind.i64.wrap (0 + 1) == (r.nearR.advR (spf a 0 2305843009213693952)).tickN) =
                                    true)))
                              (br (r.nearR.advR (spf a 0 2305843009213693952)).dotR.dotC
                                (br (r.nearR.advR (spf a 0 2305843009213693952)).dotR.dotR.dotC
                                  (((r.nearR.advR (spf a 0 2305843009213693952)).dotR.dotR.dotR.line == (r.nearR.advR (spf a 0 2305843009213693952)).tickR.line &&
                                        ((r.nearR.advR (spf a 0 2305843009213693952)).dotR.dotR.dotR.dot == (r.nearR.advR (spf a 0 2305843009213693952)).tickR.dot &&
                                          ((r.nearR.advR (spf a 0 2305843009213693952)).dotR.dotR.dotR.odd == (r.nearR.advR (spf a 0 2305843009213693952)).tickR.odd &&
                                            ((r.nearR.advR (spf a 0 2305843009213693952)).dotR.dotR.dotR.vbl == (r.nearR.advR (spf a 0 2305843009213693952)).tickR.vbl &&
                                              ((r.nearR.advR (spf a 0 2305843009213693952)).dotR.dotR.dotR.nmi == (r.nearR.advR (spf a 0 2305843009213693952)).tickR.nmi &&
                                                ((r.nearR.advR (spf a 0 2305843009213693952)).dotR.dotR.dotR.draw == (r.nearR.advR (spf a 0 2305843009213693952)).tickR.draw && ((r.nearR.advR (spf a 0 2305843009213693952)).dotR.dotR.dotR.hold == (r.nearR.advR (spf a 0 2305843009213693952)).tickR.hold && true)))))) &&
                                      IntKind.i64.wrap (IntKind.i64.wrap (0 + 1) + 1) == (r.nearR.advR (spf a 0 2305843009213693952)).tickN) =
                                    true)
                                  (((r.nearR.advR (spf a 0 2305843009213693952)).dotR.dotR.dotR.line == (r.nearR.advR (spf a 0 2305843009213693952)).tickR.line &&
                                        ((r.nearR.advR (spf a 0 2305843009213693952)).dotR.dotR.dotR.dot == (r.nearR.advR (spf a 0 2305843009213693952)).tickR.dot &&
                                          ((r.nearR.advR (spf a 0 2305843009213693952)).dotR.dotR.dotR.odd == (r.nearR.advR (spf a 0 2305843009213693952)).tickR.odd &&
                                            ((r.nearR.advR (spf a 0 2305843009213693952)).dotR.dotR.dotR.vbl == (r.nearR.advR (spf a 0 2305843009213693952)).tickR.vbl &&
                                              ((r.nearR.advR (spf a 0 2305843009213693952)).dotR.dotR.dotR.nmi == (r.nearR.advR (spf a 0 2305843009213693952)).tickR.nmi &&
                                                ((r.nearR.advR (spf a 0 2305843009213693952)).dotR.dotR.dotR.draw == (r.nearR.advR (spf a 0 2305843009213693952)).tickR.draw && ((r.nearR.advR (spf a 0 2305843009213693952)).dotR.dotR.dotR.hold == (r.nearR.advR (spf a 0 2305843009213693952)).tickR.hold && true)))))) &&
                                      IntKind.i64.wrap (0 + 1) == (r.nearR.advR (spf a 0 2305843009213693952)).tickN) =
                                    true))
                                (br (r.nearR.advR (spf a 0 2305843009213693952)).dotR.dotR.dotC
                                  (((r.nearR.advR (spf a 0 2305843009213693952)).dotR.dotR.dotR.line == (r.nearR.advR (spf a 0 2305843009213693952)).tickR.line &&
                                        ((r.nearR.advR (spf a 0 2305843009213693952)).dotR.dotR.dotR.dot == (r.nearR.advR (spf a 0 2305843009213693952)).tickR.dot &&
                                          ((r.nearR.advR (spf a 0 2305843009213693952)).dotR.dotR.dotR.odd == (r.nearR.advR (spf a 0 2305843009213693952)).tickR.odd &&
                                            ((r.nearR.advR (spf a 0 2305843009213693952)).dotR.dotR.dotR.vbl == (r.nearR.advR (spf a 0 2305843009213693952)).tickR.vbl &&
                                              ((r.nearR.advR (spf a 0 2305843009213693952)).dotR.dotR.dotR.nmi == (r.nearR.advR (spf a 0 2305843009213693952)).tickR.nmi &&
                                                ((r.nearR.advR (spf a 0 2305843009213693952)).dotR.dotR.dotR.draw == (r.nearR.advR (spf a 0 2305843009213693952)).tickR.draw && ((r.nearR.advR (spf a 0 2305843009213693952)).dotR.dotR.dotR.hold == (r.nearR.advR (spf a 0 2305843009213693952)).tickR.hold && true)))))) &&
                                      IntKind.i64.wrap (0 + 1) == (r.nearR.advR (spf a 0 2305843009213693952)).tickN) =
                                    true)
                                  (((r.nearR.advR (spf a 0 2305843009213693952)).dotR.dotR.dotR.line == (r.nearR.advR (spf a 0 2305843009213693952)).tickR.line &&
                                        ((r.nearR.advR (spf a 0 2305843009213693952)).dotR.dotR.dotR.dot == (r.nearR.advR (spf a 0 2305843009213693952)).tickR.dot &&
                                          ((r.nearR.advR (spf a 0 2305843009213693952)).dotR.dotR.dotR.odd == (r.nearR.advR (spf a 0 2305843009213693952)).tickR.odd &&
                                            ((r.nearR.advR (spf a 0 2305843009213693952)).dotR.dotR.dotR.vbl == (r.nearR.advR (spf a 0 2305843009213693952)).tickR.vbl &&
                                              ((r.nearR.advR (spf a 0 2305843009213693952)).dotR.dotR.dotR.nmi == (r.nearR.advR (spf a 0 2305843009213693952)).tickR.nmi &&
                                                ((r.nearR.advR (spf a 0 2305843009213693952)).dotR.dotR.dotR.draw == (r.nearR.advR (spf a 0 2305843009213693952)).tickR.draw && ((r.nearR.advR (spf a 0 2305843009213693952)).dotR.dotR.dotR.hold == (r.nearR.advR (spf a 0 2305843009213693952)).tickR.hold && true)))))) &&
                                      0 == (r.nearR.advR (spf a 0 2305843009213693952)).tickN) =
                                    true))))))) := by kernel_rfl
theorem g8_ok : GamOK (E0 g8 noLoop) :=
  gam_ok rfl ⟨con34.of, con35.of, con15.of, con16.of, con21.of, con18.of, con22.of, con17.of, con29.of, con19.of, con20.of, con36.of, con25.of, con26.of, con23.of, con24.of, con27.of, con28.of, trivial⟩

theorem w7 (svs : List SV) (h : IsL Try.prog 3 [23, 3] svs) : bodyK (E0 g8 noLoop) (callN (E0 g8 noLoop) 1) 7 Try.f7 svs [] (fun x _ => isTrue x) := by
  obtain ⟨a, b, rfl, h1, h2⟩ := isL2 h
  obtain ⟨r, rfl, hr⟩ := is_ras h1
  obtain ⟨v, rfl, hv⟩ := is_int und3 h2
  have hv := inK_i64 hv
  rw [t7]
  refine ⟨⟨hv⟩, ⟨hv⟩, ?_⟩
  simp

end Go.Sx

namespace Go.Sx
open Go.Proofs
set_option linter.unusedVariables false
set_option linter.unusedSimpArgs false

theorem w9 (svs : List SV) (h : IsL Try.prog 3 [23, 3, 3] svs) : bodyK (E0 g8 noLoop) (callN (E0 g8 noLoop) 1) 9 Try.f9 svs [] (fun x _ => isTrue x) := by
  obtain ⟨a, b, c, rfl, h1, h2, h3⟩ := isL3 h
  obtain ⟨r, rfl, hr⟩ := is_ras h1
  obtain ⟨m, rfl, hm⟩ := is_int und3 h2
  obtain ⟨n, rfl, hn⟩ := is_int und3 h3
  have hm := inK_i64 hm
  have hn := inK_i64 hn
  have a1 := i64_spf m 0 2305843009213693952 (by omega) (by omega)
  have a2 := i64_spf n 0 2305843009213693952 (by omega) (by omega)
  have k1 : spanOK m 0 2305843009213693952 := ⟨hm, by omega⟩
  have k2 : spanOK n 0 2305843009213693952 := ⟨hn, by omega⟩
  rw [t9]
  have hs := near_valid r
  generalize r.nearR = s at *
  generalize spf m 0 2305843009213693952 = A at *
  generalize spf n 0 2305843009213693952 = B at *
  obtain ⟨e1, e2⟩ := advR_add hs a1.1 a2.1
  have e3 := wrap_wrap (s.advN A) ((s.advR A).advN B)
  rw [e2] at e3
  have hx := advR_valid hs A
  generalize hX : s.advR A = x at *
  obtain ⟨e4, e5⟩ := advR_one hx
  have e6 := tick_moves hx
  have e7 := tickN_le x
  have e8 : IntKind.i64.wrap (A + B) = A + B := IntWalk.i64_in _ (by omega)
  have e9 : IntKind.i64.wrap x.tickN = x.tickN := IntWalk.i64_in _ (by omega)
  have kA : i64 A := by unfold i64; omega
  have kB : i64 B := by unfold i64; omega
  have kC : i64 (A + B) := by unfold i64; omega
  have kD : i64 1 := by unfold i64; omega
  refine ⟨⟨hr⟩, ⟨k1⟩, ⟨k2⟩, ⟨kA⟩, ⟨kB⟩, ⟨by rw [e8]; exact kC⟩, ?_⟩
  have w1 : IntKind.i64.wrap (0 + 1) = 1 := by rfl
  have w2 : IntKind.i64.wrap (1 + 1) = 2 := by rfl
  have w3 : IntKind.i64.wrap (2 + 1) = 3 := by rfl
  have t : x.dotR.dotR.dotR = x.tickR := rfl
  simp only [e8, e1, e3, hx, e4, e5, e9, w1, w2, w3, t, beq_self_eq_true, Bool.and_true, Bool.true_and, bne_self_eq_false, Bool.not_true, Bool.or_false, Bool.false_or, e6]
  refine ⟨trivial, ⟨kD⟩, trivial, trivial, trivial, trivial, ?_⟩
  unfold Ras.tickN
  cases x.dotC <;> cases x.dotR.dotC <;> cases x.dotR.dotR.dotC <;> rfl
end Go.Sx

namespace Go.Sx
open Go.Proofs
set_option linter.unusedVariables false
set_option linter.unusedSimpArgs false

theorem top_at (r : Ras) (o : Bool) (n : Nat) (hn : n ≤ 89340 ∨ (n = 89341 ∧ ¬ (o = true ∧ r.draw = true))) :
    (Ras.its n (r.top o)).pl = n ∧ (Ras.its n (r.top o)).odd = o ∧ (Ras.its n (r.top o)).draw = r.draw ∧ Ras.cks n (r.top o) = if r.draw = true then struck n else 0 := by
  have hf : inFrame (r.top o) ((r.top o).pl + n) := by
    rw [top_pl]; unfold inFrame; rw [top_pl]
    refine ⟨by omega, ?_⟩
    rcases hn with h | h
    · exact .inl (by omega)
    · exact .inr ⟨by omega, .inr h.2⟩
  obtain ⟨i1, i2⟩ := its_jump (top_valid r o) n hf
  have e : (r.top o).pl + (n : Int) = n := by rw [top_pl]; omega
  have z : struck (r.top o).pl = 0 := by rw [top_pl]; rfl
  rw [e] at i1 i2
  rw [z] at i2
  rw [i1, i2, jump_pl]
  refine ⟨rfl, rfl, rfl, ?_⟩
  show (if r.draw = true then struck n - 0 else 0) = _
  split <;> omega

theorem line_dot {r s : Ras} (h : r.valid = true) (h2 : s.valid = true) (e : s.pl = r.pl) : s.line = r.line ∧ s.dot = r.dot := by
  rw [valid_iff] at h h2
  unfold Ras.pl at e; omega

theorem frame_pair {r : Ras} (h : r.valid = true) (hd : r.draw = true) (ho : r.odd = true → r.pl ≤ 89340) :
    (Ras.its 178683 r).pl = r.pl ∧ (Ras.its 178683 r).odd = r.odd ∧ (Ras.its 178683 r).draw = true ∧ Ras.cks 178683 r = 482 := by
  have hl := left_range h
  have hp := pl_range h
  obtain ⟨a1, a2⟩ := its_left h
  obtain ⟨b1, b2⟩ := its_frame r (!r.odd)
  have hL : r.left = if r.odd = true then 89341 - r.pl else 89342 - r.pl := by
    unfold Ras.left
    cases o : r.odd
    · simp
    · simp [ho o, hd]
  have e : 178683 = r.left.toNat + ((if (!r.odd) = true ∧ r.draw = true then 89341 else 89342) + r.pl.toNat) := by
    rw [hL, hd]; cases o : r.odd
    · simp; omega
    · have := ho o; simp; omega
  rw [e, its_add, cks_add, a1, its_add, cks_add, b1, b2, a2]
  have t := top_at r r.odd r.pl.toNat (by
    cases o : r.odd
    · by_cases c : r.pl = 89341
      · exact .inr ⟨by omega, by simp⟩
      · exact .inl (by omega)
    · have := ho o; exact .inl (by omega))
  simp only [Bool.not_not] at *
  obtain ⟨t1, t2, t3, t4⟩ := t
  rw [t1, t2, t3, t4, hd]
  simp only [if_true]
  have : ((r.pl.toNat : Nat) : Int) = r.pl := by omega
  rw [this]
  exact ⟨rfl, trivial, trivial, by omega⟩

theorem cks_off : ∀ (n : Nat) {r : Ras}, r.draw = false → Ras.cks n r = 0
  | 0, r, h => rfl
  | n + 1, r, h => by
    simp only [Ras.cks]
    have hs : r.step.draw = false := h
    rw [cks_off n hs]
    unfold Ras.clock; rw [h]; rfl

theorem off_turn {r : Ras} (h : r.valid = true) (hd : r.draw = false) (n : Nat) : Ras.its ((89342 - r.pl).toNat + n) r = Ras.its n (r.top (!r.odd)) := by
  have hL : r.left = 89342 - r.pl := by unfold Ras.left; rw [hd]; simp
  rw [its_add, ← hL, (its_left h).1]
theorem off_frame (r : Ras) (hd : r.draw = false) (o : Bool) (n : Nat) : Ras.its (89342 + n) (r.top o) = Ras.its n (r.top (!o)) := by
  have := (its_frame r o).1
  rw [if_neg (by rw [hd]; simp)] at this
  rw [its_add, this]

theorem frame_three {r : Ras} (h : r.valid = true) (hd : r.draw = false) : (Ras.its 268026 r).pl = r.pl ∧ (Ras.its 268026 r).odd = !r.odd := by
  have hp := pl_range h
  have e : 268026 = (89342 - r.pl).toNat + (89342 + (89342 + r.pl.toNat)) := by omega
  rw [e, off_turn h hd, off_frame r hd, off_frame r hd]
  have t := top_at r (!!!r.odd) r.pl.toNat (by
    by_cases c : r.pl = 89341
    · exact .inr ⟨by omega, by rw [hd]; simp⟩
    · exact .inl (by omega))
  rw [t.1, t.2.1]
  exact ⟨by omega, by simp⟩

theorem frame_off {r : Ras} (h : r.valid = true) (hd : r.draw = false) : (Ras.its 178683 r).pl ≠ r.pl := by
  have hp := pl_range h
  by_cases c : r.pl = 0
  · have e : 178683 = (89342 - r.pl).toNat + 89341 := by omega
    rw [e, off_turn h hd]
    have t := top_at r (!r.odd) 89341 (.inr ⟨rfl, by rw [hd]; simp⟩)
    rw [t.1]; omega
  · have e : 178683 = (89342 - r.pl).toNat + (89342 + (r.pl.toNat - 1)) := by omega
    rw [e, off_turn h hd, off_frame r hd]
    have t := top_at r (!!r.odd) (r.pl.toNat - 1) (.inl (by omega))
    rw [t.1]; omega

theorem valid_with {r : Ras} (h : r.valid = true) (o n w : Bool) : (Ras.mk r.line r.dot o r.vbl n w r.hold).valid = true := by
  rw [valid_iff] at *; exact h

/-- The law, of a valid raster. -/
theorem frames_all {s : Ras} (hs : s.valid = true) (o : Bool) (ho : o = true → s.pl ≤ 89340) :
    ((Ras.mk s.line s.dot o s.vbl s.nmi true s.hold).advN 59561 = 482 ∧ (Ras.mk s.line s.dot o s.vbl s.nmi false s.hold).advN 89342 = 0) ∧
    (((Ras.mk s.line s.dot o s.vbl s.nmi true s.hold).advR 59561).line = s.line ∧ ((Ras.mk s.line s.dot o s.vbl s.nmi true s.hold).advR 59561).dot = s.dot ∧ ((Ras.mk s.line s.dot o s.vbl s.nmi true s.hold).advR 59561).odd = o ∧ ((Ras.mk s.line s.dot o s.vbl s.nmi true s.hold).advR 59561).draw = true) ∧
    (((Ras.mk s.line s.dot o s.vbl s.nmi false s.hold).advR 89342).line = s.line ∧ ((Ras.mk s.line s.dot o s.vbl s.nmi false s.hold).advR 89342).dot = s.dot ∧ ((Ras.mk s.line s.dot o s.vbl s.nmi false s.hold).advR 89342).odd = !o) ∧
    (((Ras.mk s.line s.dot o s.vbl s.nmi false s.hold).advR 59561).line != s.line || ((Ras.mk s.line s.dot o s.vbl s.nmi false s.hold).advR 59561).dot != s.dot) = true := by
  have v1 := valid_with hs o s.nmi true
  have v2 := valid_with hs o s.nmi false
  have p1 : (Ras.mk s.line s.dot o s.vbl s.nmi true s.hold).pl = s.pl := rfl
  have p2 : (Ras.mk s.line s.dot o s.vbl s.nmi false s.hold).pl = s.pl := rfl
  have d1 : (Ras.mk s.line s.dot o s.vbl s.nmi true s.hold).draw = true := rfl
  have d2 : (Ras.mk s.line s.dot o s.vbl s.nmi false s.hold).draw = false := rfl
  have o1 : (Ras.mk s.line s.dot o s.vbl s.nmi true s.hold).odd = o := rfl
  have o2 : (Ras.mk s.line s.dot o s.vbl s.nmi false s.hold).odd = o := rfl
  generalize Ras.mk s.line s.dot o s.vbl s.nmi true s.hold = a at *
  generalize Ras.mk s.line s.dot o s.vbl s.nmi false s.hold = b at *
  have n1 : 3 * (59561 : Int).toNat = 178683 := by rfl
  have n2 : 3 * (89342 : Int).toNat = 268026 := by rfl
  rw [(advR_eq v1 59561).1, (advR_eq v1 59561).2, (advR_eq v2 89342).1, (advR_eq v2 89342).2, (advR_eq v2 59561).1, n1, n2]
  obtain ⟨f1, f2, f3, f4⟩ := frame_pair v1 d1 (by rw [o1, p1]; exact ho)
  obtain ⟨g1, g2⟩ := frame_three v2 d2
  have g3 := frame_off v2 d2
  have e1 := line_dot hs (its_valid 178683 v1) (by rw [f1, p1])
  have e2 := line_dot hs (its_valid 268026 v2) (by rw [g1, p2])
  refine ⟨⟨f4, cks_off _ d2⟩, ⟨e1.1, e1.2, by rw [f2, o1], f3⟩, ⟨e2.1, e2.2, by rw [g2, o2]⟩, ?_⟩
  cases hb : ((Ras.its 178683 b).line != s.line || (Ras.its 178683 b).dot != s.dot) with
  | true => rfl
  | false =>
    simp at hb
    exfalso; apply g3
    rw [p2]; unfold Ras.pl; rw [hb.1, hb.2]

theorem w8 (svs : List SV) (h : IsL Try.prog 3 [23] svs) : bodyK (E0 g8 noLoop) (callN (E0 g8 noLoop) 1) 8 Try.f8 svs [] (fun x _ => isTrue x) := by
  obtain ⟨a, rfl, h1⟩ := isL1 h
  obtain ⟨r, rfl, hr⟩ := is_ras h1
  rw [t8]
  have hs := near_valid r
  have hp := pl_range hs
  generalize r.nearR = s at *
  have k1 : i64 59561 := by unfold i64; omega
  have k2 : i64 89342 := by unfold i64; omega
  have z1 : IntKind.i64.wrap 482 = 482 := by rfl
  have z2 : IntKind.i64.wrap 0 = 0 := by rfl
  refine ⟨⟨hr⟩, br_in (fun c => ?_) (fun c => ?_)⟩
  · obtain ⟨⟨a1, a2⟩, ⟨b1, b2, b3, b4⟩, ⟨c1, c2, c3⟩, d⟩ := frames_all hs false (by simp)
    rw [a1, a2, b1, b2, b3, b4, c1, c2, c3, z1, z2, d]
    refine ⟨⟨k1⟩, ⟨k2⟩, ?_⟩
    simp [br]
    exact ⟨k1⟩
  · have hc : s.odd = true → s.pl ≤ 89340 := by
      intro _
      rw [valid_iff] at hs
      have : ¬ (s.line = 261 ∧ s.dot = 340) := by
        rintro ⟨e1, e2⟩; rw [e1, e2] at c; simp at c
      unfold Ras.pl; omega
    obtain ⟨⟨a1, a2⟩, ⟨b1, b2, b3, b4⟩, ⟨c1, c2, c3⟩, d⟩ := frames_all hs s.odd hc
    rw [a1, a2, b1, b2, b3, b4, c1, c2, c3, z1, z2, d]
    refine ⟨⟨k1⟩, ⟨k2⟩, ?_⟩
    cases s.odd <;> (simp [br]; exact ⟨k1⟩)
end Go.Sx

namespace Go.Sx
open Go.Proofs
set_option linter.unusedVariables false
set_option linter.unusedSimpArgs false

/-- Dots until the flag is another. -/
def Ras.nextD (r : Ras) : Int := if r.vbl = true then 89002 - r.pl else if 82181 < r.pl ∨ r.hold = true then r.left + 82182 else 82182 - r.pl
def never : Int := 4611686018427387904
def Ras.nextN (r : Ras) : Int := if r.valid = true then (if r.nmi = true then (r.nextD + 2) / 3 else never) else 0
def cNext : Con := .pure pre0 (onR fun r => .i .i64 r.nextN)
def g9 : List (Nat × Con) := [(27, cV), (28, cV), (41, cPlace), (47, cLen), (48, cStruck), (44, cT)]

theorem t30 (r : Ras) : bodyK (E0 g9 noLoop) (callN (E0 g9 noLoop) 3) 30 Try.f30 [r.sv] [] (fun x _ => onB (x.cl 0) (x = .i .i64 r.nextN)) = (
  True ∧
  br (!r.valid) (SV.i IntKind.i64 0 = SV.i IntKind.i64 r.nextN)
    (br (!r.nmi) (SV.i IntKind.i64 4611686018427387904 = SV.i IntKind.i64 r.nextN)
      (br r.vbl (Chk (r.valid = true) ∧ SV.i IntKind.i64 (IntKind.i64.wrap ((IntKind.i64.wrap (IntKind.i64.wrap (89002 - r.pl) + 2)).tdiv 3)) = SV.i IntKind.i64 r.nextN)
        (Chk (r.valid = true) ∧
          br (decide (82181 < r.pl) || r.hold)
            (True ∧
              br (decide (IntKind.i64.wrap (r.len - r.pl) ≤ 0)) (Chk ((Ras.mk 0 0 (!r.odd) r.vbl r.nmi r.draw false).valid = true) ∧ SV.i IntKind.i64 (IntKind.i64.wrap ((IntKind.i64.wrap (IntKind.i64.wrap (IntKind.i64.wrap (IntKind.i64.wrap (IntKind.i64.wrap (89342 - r.pl) + 82181) + 1) - (Ras.mk 0 0 (!r.odd) r.vbl r.nmi r.draw false).pl) + 2)).tdiv 3)) = SV.i IntKind.i64 r.nextN)
                (Chk ((Ras.mk 0 0 (!r.odd) r.vbl r.nmi r.draw false).valid = true) ∧ SV.i IntKind.i64 (IntKind.i64.wrap ((IntKind.i64.wrap (IntKind.i64.wrap (IntKind.i64.wrap (IntKind.i64.wrap (IntKind.i64.wrap (r.len - r.pl) + 82181) + 1) - (Ras.mk 0 0 (!r.odd) r.vbl r.nmi r.draw false).pl) + 2)).tdiv 3)) = SV.i IntKind.i64 r.nextN))
            (Chk (r.valid = true) ∧ SV.i IntKind.i64 (IntKind.i64.wrap ((IntKind.i64.wrap (IntKind.i64.wrap (IntKind.i64.wrap (IntKind.i64.wrap (0 + 82181) + 1) - r.pl) + 2)).tdiv 3)) = SV.i IntKind.i64 r.nextN))))) := by kernel_rfl

end Go.Sx

namespace Go.Sx
open Go.Proofs
set_option linter.unusedVariables false
set_option linter.unusedSimpArgs false

theorem nextD_range {r : Ras} (h : r.valid = true) : 1 ≤ r.nextD ∧ r.nextD ≤ 200000 := by
  have hp := pl_range h
  have hl := left_range h
  rw [valid_iff] at h
  unfold Ras.nextD
  split
  · rename_i hv; have := h.2.2.2.2.1 hv; omega
  · split <;> omega

theorem p30 (r : Ras) : bodyK (E0 g9 noLoop) (callN (E0 g9 noLoop) 3) 30 Try.f30 [r.sv] [] (fun x _ => onB (x.cl 0) (x = .i .i64 r.nextN)) := by
  rw [t30]
  refine ⟨trivial, br_in (fun a => ?_) (fun a => br_in (fun b => ?_) (fun b => ?_))⟩ <;> simp at a
  · unfold Ras.nextN; rw [a]; rfl
  · simp at b; unfold Ras.nextN; rw [a, b]; rfl
  · simp at b
    have hn : r.nextN = (r.nextD + 2) / 3 := by unfold Ras.nextN; rw [if_pos a, if_pos b]
    have hp := pl_range a
    obtain ⟨l1, l2⟩ := left_len a
    have hl := left_range a
    have hlen : 89341 ≤ r.len ∧ r.len ≤ 89342 := by unfold Ras.len; split <;> omega
    have hd := nextD_range a
    have fin : ∀ e : Int, e = r.nextD → SV.i IntKind.i64 (IntKind.i64.wrap ((IntKind.i64.wrap (e + 2)).tdiv 3)) = SV.i IntKind.i64 r.nextN := by
      rintro e rfl
      rw [IntWalk.i64_in (r.nextD + 2) (by omega), IntWalk.i64_quo (r.nextD + 2) 3 (by omega), hn]
    refine br_in (fun c => ⟨⟨a⟩, ?_⟩) (fun c => ⟨⟨a⟩, br_in (fun d => ⟨trivial, br_in (fun e => ⟨⟨?_⟩, ?_⟩) (fun e => ⟨⟨?_⟩, ?_⟩)⟩) (fun d => ⟨⟨a⟩, ?_⟩)⟩)
    · rw [IntWalk.i64_in (89002 - r.pl) (by omega)]
      exact fin _ (by unfold Ras.nextD; rw [if_pos c])
    · rw [valid_iff]; simp [c]
    · rw [IntWalk.i64_in (r.len - r.pl) (by omega)] at e
      simp at e
      have z : (Ras.mk 0 0 (!r.odd) r.vbl r.nmi r.draw false).pl = 0 := rfl
      rw [z, IntWalk.i64_in (89342 - r.pl) (by omega), IntWalk.i64_in (89342 - r.pl + 82181) (by omega), IntWalk.i64_in (89342 - r.pl + 82181 + 1) (by omega), IntWalk.i64_in (89342 - r.pl + 82181 + 1 - 0) (by omega)]
      refine fin _ ?_
      unfold Ras.nextD
      rw [if_neg (by rw [c]; simp), if_pos (by simpa using d), l1 (by omega)]; omega
    · rw [valid_iff]; simp [c]
    · rw [IntWalk.i64_in (r.len - r.pl) (by omega)] at e ⊢
      simp at e
      have z : (Ras.mk 0 0 (!r.odd) r.vbl r.nmi r.draw false).pl = 0 := rfl
      rw [z, IntWalk.i64_in (r.len - r.pl + 82181) (by omega), IntWalk.i64_in (r.len - r.pl + 82181 + 1) (by omega), IntWalk.i64_in (r.len - r.pl + 82181 + 1 - 0) (by omega)]
      refine fin _ ?_
      unfold Ras.nextD
      rw [if_neg (by rw [c]; simp), if_pos (by simpa using d), l2 (by omega)]; omega
    · have z : IntKind.i64.wrap (IntKind.i64.wrap (0 + 82181) + 1) = 82182 := by rfl
      rw [z, IntWalk.i64_in (82182 - r.pl) (by omega)]
      refine fin _ ?_
      unfold Ras.nextD
      rw [if_neg (by rw [c]; simp), if_neg (by simpa using d)]

theorem g9_ok : GamOK (E0 g9 noLoop) := gam_ok rfl ⟨con27.of, con28.of, con41.of, con47.of, con48.of, con44.of, trivial⟩
theorem con30 : ConOK (E0 g9 noLoop) 30 cNext := conR g9_ok (noLoops _) 3 Try.func30 fun r _ => p30 r
end Go.Sx

namespace Go.Sx
open Go.Proofs
set_option linter.unusedVariables false
set_option linter.unusedSimpArgs false
def st31 (r : Ras) (now : Bool) (n z : Int) : St := ⟨[(1, .ptr 0 []), (2, .i .i64 z), (4, .b now), (5, .i .i64 n)], [r.sv]⟩
def keep31 : List Tmp := [1, 2, 4, 5]

theorem tl31 (r : Ras) (now : Bool) (n z : Int) (N : St → Prop) (X : Kont) : (execC (E0 g9 noLoop) (callN (E0 g9 noLoop) 1) 31 Try.f31.ntmps (codeL Try.f31 8) (st31 r now n z) (oneK keep31 1 N X)) = (
  br (r.vbl == now) (Chk (r.valid = true) ∧ N (St.mk [(1, SV.ptr 0 []), (2, SV.i IntKind.i64 z), (4, SV.b now), (5, SV.i IntKind.i64 (IntKind.i64.wrap (n + 1)))] [r.tickR.sv])) (X (Exit.exit 0) (St.mk [(1, SV.ptr 0 []), (2, SV.i IntKind.i64 z), (4, SV.b now), (5, SV.i IntKind.i64 n)] [r.sv]))) := by kernel_rfl

end Go.Sx

namespace Go.Sx
open Go.Proofs
set_option linter.unusedVariables false
set_option linter.unusedSimpArgs false

theorem jump_vbl (r : Ras) (q : Int) : (r.jump q).vbl = if r.pl < 89002 ∧ 89002 ≤ q then false else if r.pl < 82182 ∧ 82182 ≤ q then !r.hold else r.vbl := rfl

/-- The flag up to the dot that nextD tells, and at three dots from there. -/
theorem flag_at {r : Ras} (h : r.valid = true) (m : Nat) (hm : (m : Int) ≤ r.nextD + 2) : (Ras.its m r).vbl = if (m : Int) < r.nextD then r.vbl else !r.vbl := by
  have hp := pl_range h
  have hl := left_range h
  have hv := h
  rw [valid_iff] at hv
  have hlv : ¬ (r.pl ≤ 89340 ∧ r.odd = true ∧ r.draw = true) → r.left = 89342 - r.pl := fun c => by unfold Ras.left; rw [if_neg c]
  have hlv2 : (r.pl ≤ 89340 ∧ r.odd = true ∧ r.draw = true) → r.left = 89341 - r.pl := fun c => by unfold Ras.left; rw [if_pos c]
  have hle : 89341 - r.pl ≤ r.left := by
    by_cases c : (r.pl ≤ 89340 ∧ r.odd = true ∧ r.draw = true)
    · have := hlv2 c; omega
    · have := hlv c; omega
  unfold Ras.nextD at hm ⊢
  cases hb : r.vbl with
  | true =>
    have h1 := hv.2.2.2.2.1 hb
    rw [hb] at hm
    simp only [if_true] at hm ⊢
    obtain ⟨s1, _, _⟩ := its_skip h (n := (m : Int)) (by omega) (by omega)
    rw [Int.toNat_natCast] at s1
    rw [s1, jump_vbl, hb]
    by_cases c : (m : Int) < 89002 - r.pl
    · rw [if_pos c, if_neg (by omega), if_neg (by omega)]
    · rw [if_neg c, if_pos (by omega)]; rfl
  | false =>
    rw [hb] at hm
    simp only [Bool.false_eq_true, if_false] at hm ⊢
    by_cases c : 82181 < r.pl ∨ r.hold = true
    · rw [if_pos c] at hm ⊢
      by_cases e : (m : Int) < r.left
      · rw [if_pos (by omega)]
        obtain ⟨s1, _, _⟩ := its_skip h (n := (m : Int)) (by omega) e
        rw [Int.toNat_natCast] at s1
        rw [s1, jump_vbl, hb]
        by_cases f : r.pl < 89002 ∧ 89002 ≤ r.pl + m
        · rw [if_pos f]
        · rw [if_neg f]
          by_cases g : r.pl < 82182 ∧ 82182 ≤ r.pl + m
          · rw [if_pos g]
            rcases c with c | c
            · omega
            · rw [c]; rfl
          · rw [if_neg g]
      · have e2 : m = r.left.toNat + (m - r.left.toNat) := by omega
        have e3 : Ras.its m r = Ras.its (m - r.left.toNat) (r.top (!r.odd)) := by
          conv => lhs; rw [e2]
          rw [its_add, (its_left h).1]
        rw [e3]
        have tl : (r.top (!r.odd)).left ≥ 89341 := by
          unfold Ras.left; rw [top_pl]; split <;> omega
        obtain ⟨s1, _, _⟩ := its_skip (top_valid r (!r.odd)) (n := ((m - r.left.toNat : Nat) : Int)) (by omega) (by omega)
        rw [Int.toNat_natCast] at s1
        rw [s1, jump_vbl, top_pl]
        have t1 : (r.top (!r.odd)).hold = false := rfl
        have t2 : (r.top (!r.odd)).vbl = false := rfl
        rw [t1, t2, if_neg (by omega)]
        by_cases g : (m : Int) < r.left + 82182
        · rw [if_pos g, if_neg (by omega)]
        · rw [if_neg g, if_pos (by omega)]
    · rw [if_neg c] at hm ⊢
      have c1 : r.pl ≤ 82181 := by
        refine Classical.byContradiction fun k => ?_
        exact c (.inl (by omega))
      have c2 : r.hold = false := by
        cases hh : r.hold
        · rfl
        · exact (c (.inr hh)).elim
      obtain ⟨s1, _, _⟩ := its_skip h (n := (m : Int)) (by omega) (by omega)
      rw [Int.toNat_natCast] at s1
      rw [s1, jump_vbl, hb, c2, if_neg (by omega)]
      by_cases g : (m : Int) < 82182 - r.pl
      · rw [if_pos g, if_neg (by omega)]
      · rw [if_neg g, if_pos (by omega)]

def Ras.nextJ (r : Ras) : Nat := ((r.nextD + 2) / 3).toNat
def body31 : St → Kont → Prop := execC (E0 g9 noLoop) (callN (E0 g9 noLoop) 1) 31 Try.f31.ntmps (codeL Try.f31 8)

theorem loop31 (K : Kont) (r : Ras) (z : Int) (h : r.valid = true) (hk : K (Exit.exit 0) (st31 (Ras.its (3 * r.nextJ) r) r.vbl r.nextJ z)) :
    ∀ (i k : Nat), k + i = r.nextJ → ∃ m, roundsN keep31 1 body31 K m (st31 (Ras.its (3 * k) r) r.vbl k z)
  | 0, k, e => by
    have hd := nextD_range h
    have hJ : r.nextJ = ((r.nextD + 2) / 3).toNat := rfl
    refine ⟨1, ?_⟩
    rw [roundsN_succ]; unfold body31; rw [tl31]
    have hf := flag_at h (3 * k) (by omega)
    rw [if_neg (by omega)] at hf
    rw [hf]
    refine br_in (fun a => ?_) (fun a => ?_)
    · cases r.vbl <;> simp at a
    · have e' : k = r.nextJ := by omega
      rw [e']; exact hk
  | i + 1, k, e => by
    have hd := nextD_range h
    have hJ : r.nextJ = ((r.nextD + 2) / 3).toNat := rfl
    obtain ⟨m, hm⟩ := loop31 K r z h hk i (k + 1) (by omega)
    refine ⟨m + 1, ?_⟩
    rw [roundsN_succ]; unfold body31; rw [tl31]
    have hf := flag_at h (3 * k) (by omega)
    rw [if_pos (by omega)] at hf
    rw [hf]
    have hv := its_valid (3 * k) h
    refine br_in (fun a => ?_) (fun a => ?_)
    · rw [(tick_its hv).1, ← its_add, IntWalk.i64_in ((k : Int) + 1) (by omega)]
      exact ⟨⟨hv⟩, hm⟩
    · simp at a

def ok31 (r : Ras) (now : Bool) (n : Int) : Prop := r.valid = true ∧ now = r.vbl ∧ n = 0
def pt31 (s : St) (K : Kont) : Prop := match s with
  | ⟨[(1, .ptr 0 []), (2, .i .i64 z), (4, .b now), (5, .i .i64 n)], [x]⟩ => (match rasOf x with
    | some r => Chk (ok31 r now n) ∧ K (Exit.exit 0) (st31 (Ras.its (3 * r.nextJ) r) r.vbl r.nextJ z)
    | none => False)
  | _ => False
def l31 : LCon := ⟨keep31, pt31⟩
def L31 : List (Nat × Nat × LCon) := [(31, 8, l31)]
theorem in31 (gam : List (Nat × Con)) (loop : List (Nat × Nat × LCon)) : LoopIn (E0 gam loop) (31, 8, l31) := by
  refine loop_in g9_ok 1 Try.func31 (by kernel_rfl) fun s K hp => ?_
  change pt31 s K at hp
  unfold pt31 at hp
  split at hp
  · rename_i z now n x
    split at hp
    · rename_i r hr
      obtain ⟨⟨hv, rfl, rfl⟩, k1⟩ := hp
      rw [rasOf_some hr]
      exact loop31 K r z hv k1 r.nextJ 0 (by omega)
    · exact hp.elim
  · exact hp.elim
theorem L31_ok (gam : List (Nat × Con)) : LoopsOK (E0 gam L31) := loops_ok rfl ⟨in31 _ _, trivial⟩
end Go.Sx

namespace Go.Sx
open Go.Proofs
set_option linter.unusedVariables false
set_option linter.unusedSimpArgs false

theorem t31 (r : Ras) : bodyK (E0 g9 L31) (callN (E0 g9 L31) 1) 31 Try.f31 [r.sv] [] (fun x _ => onB (x.cl 0) (x = .i .i64 r.nextN)) = (
  True ∧ br (!r.valid) (SV.i IntKind.i64 0 = SV.i IntKind.i64 r.nextN) (br (!r.nmi) (SV.i IntKind.i64 4611686018427387904 = SV.i IntKind.i64 r.nextN) (Chk (ok31 r r.vbl 0) ∧ SV.i IntKind.i64 ↑r.nextJ = SV.i IntKind.i64 r.nextN))) := by kernel_rfl
theorem p31 (r : Ras) : bodyK (E0 g9 L31) (callN (E0 g9 L31) 1) 31 Try.f31 [r.sv] [] (fun x _ => onB (x.cl 0) (x = .i .i64 r.nextN)) := by
  rw [t31]
  refine ⟨trivial, br_in (fun a => ?_) (fun a => br_in (fun b => ?_) (fun b => ?_))⟩ <;> simp at a
  · unfold Ras.nextN; rw [a]; rfl
  · simp at b; unfold Ras.nextN; rw [a, b]; rfl
  · simp at b
    have hd := nextD_range a
    refine ⟨⟨a, rfl, rfl⟩, ?_⟩
    unfold Ras.nextN Ras.nextJ
    rw [if_pos a, if_pos b]
    congr 1; omega
theorem g9L_ok : GamOK (E0 g9 L31) := gam_ok rfl ⟨con27.of, con28.of, con41.of, con47.of, con48.of, con44.of, trivial⟩
theorem con31 : ConOK (E0 g9 L31) 31 cNext := conR g9L_ok (L31_ok _) 1 Try.func31 fun r _ => p31 r

end Go.Sx

namespace Go.Sx
open Go.Proofs
set_option linter.unusedVariables false
set_option linter.unusedSimpArgs false
def gA : List (Nat × Con) := (30, cNext) :: (31, cNext) :: g8

theorem t10 (r : Ras) : bodyK (E0 gA noLoop) (callN (E0 gA noLoop) 1) 10 Try.f10 [r.sv] [] (fun x _ => isTrue x) = (
  Chk r.fit ∧
  True ∧
    br (Ras.mk r.nearR.line r.nearR.dot r.nearR.odd r.nearR.vbl true r.nearR.draw r.nearR.hold).up
      (True ∧
        Chk (i64 (Ras.mk r.nearR.line r.nearR.dot r.nearR.odd r.nearR.vbl true r.nearR.draw r.nearR.hold).nextN) ∧
          True ∧
            Chk (i64 ((Ras.mk r.nearR.line r.nearR.dot r.nearR.odd r.nearR.vbl true r.nearR.draw r.nearR.hold).advR (Ras.mk r.nearR.line r.nearR.dot r.nearR.odd r.nearR.vbl true r.nearR.draw r.nearR.hold).nextN).nextN) ∧
              True ∧
                br
                  (!(((Ras.mk r.nearR.line r.nearR.dot r.nearR.odd r.nearR.vbl true r.nearR.draw r.nearR.hold).advR (Ras.mk r.nearR.line r.nearR.dot r.nearR.odd r.nearR.vbl true r.nearR.draw r.nearR.hold).nextN).advR
                          ((Ras.mk r.nearR.line r.nearR.dot r.nearR.odd r.nearR.vbl true r.nearR.draw r.nearR.hold).advR (Ras.mk r.nearR.line r.nearR.dot r.nearR.odd r.nearR.vbl true r.nearR.draw r.nearR.hold).nextN).nextN).up ||
                    !(((Ras.mk r.nearR.line r.nearR.dot r.nearR.odd r.nearR.vbl true r.nearR.draw r.nearR.hold).advR (Ras.mk r.nearR.line r.nearR.dot r.nearR.odd r.nearR.vbl true r.nearR.draw r.nearR.hold).nextN).advR
                          ((Ras.mk r.nearR.line r.nearR.dot r.nearR.odd r.nearR.vbl true r.nearR.draw r.nearR.hold).advR (Ras.mk r.nearR.line r.nearR.dot r.nearR.odd r.nearR.vbl true r.nearR.draw r.nearR.hold).nextN).nextN).vbl)
                  (false = true)
                  (True ∧
                    Chk
                        (i64
                          (((Ras.mk r.nearR.line r.nearR.dot r.nearR.odd r.nearR.vbl true r.nearR.draw r.nearR.hold).advR (Ras.mk r.nearR.line r.nearR.dot r.nearR.odd r.nearR.vbl true r.nearR.draw r.nearR.hold).nextN).advR
                              ((Ras.mk r.nearR.line r.nearR.dot r.nearR.odd r.nearR.vbl true r.nearR.draw r.nearR.hold).advR (Ras.mk r.nearR.line r.nearR.dot r.nearR.odd r.nearR.vbl true r.nearR.draw r.nearR.hold).nextN).nextN).nextN) ∧
                      True ∧
                        Chk
                            (i64
                              ((((Ras.mk r.nearR.line r.nearR.dot r.nearR.odd r.nearR.vbl true r.nearR.draw r.nearR.hold).advR (Ras.mk r.nearR.line r.nearR.dot r.nearR.odd r.nearR.vbl true r.nearR.draw r.nearR.hold).nextN).advR
                                      ((Ras.mk r.nearR.line r.nearR.dot r.nearR.odd r.nearR.vbl true r.nearR.draw r.nearR.hold).advR (Ras.mk r.nearR.line r.nearR.dot r.nearR.odd r.nearR.vbl true r.nearR.draw r.nearR.hold).nextN).nextN).advR
                                  (((Ras.mk r.nearR.line r.nearR.dot r.nearR.odd r.nearR.vbl true r.nearR.draw r.nearR.hold).advR (Ras.mk r.nearR.line r.nearR.dot r.nearR.odd r.nearR.vbl true r.nearR.draw r.nearR.hold).nextN).advR
                                      ((Ras.mk r.nearR.line r.nearR.dot r.nearR.odd r.nearR.vbl true r.nearR.draw r.nearR.hold).advR (Ras.mk r.nearR.line r.nearR.dot r.nearR.odd r.nearR.vbl true r.nearR.draw r.nearR.hold).nextN).nextN).nextN).nextN) ∧
                          br
                            (((((Ras.mk r.nearR.line r.nearR.dot r.nearR.odd r.nearR.vbl true r.nearR.draw r.nearR.hold).advR (Ras.mk r.nearR.line r.nearR.dot r.nearR.odd r.nearR.vbl true r.nearR.draw r.nearR.hold).nextN).advR
                                        ((Ras.mk r.nearR.line r.nearR.dot r.nearR.odd r.nearR.vbl true r.nearR.draw r.nearR.hold).advR (Ras.mk r.nearR.line r.nearR.dot r.nearR.odd r.nearR.vbl true r.nearR.draw r.nearR.hold).nextN).nextN).nextN ==
                                    2273 ||
                                  (((Ras.mk r.nearR.line r.nearR.dot r.nearR.odd r.nearR.vbl true r.nearR.draw r.nearR.hold).advR (Ras.mk r.nearR.line r.nearR.dot r.nearR.odd r.nearR.vbl true r.nearR.draw r.nearR.hold).nextN).advR
                                        ((Ras.mk r.nearR.line r.nearR.dot r.nearR.odd r.nearR.vbl true r.nearR.draw r.nearR.hold).advR (Ras.mk r.nearR.line r.nearR.dot r.nearR.odd r.nearR.vbl true r.nearR.draw r.nearR.hold).nextN).nextN).nextN ==
                                    2274) &&
                                (IntKind.i64.wrap
                                      ((((Ras.mk r.nearR.line r.nearR.dot r.nearR.odd r.nearR.vbl true r.nearR.draw r.nearR.hold).advR (Ras.mk r.nearR.line r.nearR.dot r.nearR.odd r.nearR.vbl true r.nearR.draw r.nearR.hold).nextN).advR
                                            ((Ras.mk r.nearR.line r.nearR.dot r.nearR.odd r.nearR.vbl true r.nearR.draw r.nearR.hold).advR (Ras.mk r.nearR.line r.nearR.dot r.nearR.odd r.nearR.vbl true r.nearR.draw r.nearR.hold).nextN).nextN).nextN +
                                        ((((Ras.mk r.nearR.line r.nearR.dot r.nearR.odd r.nearR.vbl true r.nearR.draw r.nearR.hold).advR (Ras.mk r.nearR.line r.nearR.dot r.nearR.odd r.nearR.vbl true r.nearR.draw r.nearR.hold).nextN).advR
                                                ((Ras.mk r.nearR.line r.nearR.dot r.nearR.odd r.nearR.vbl true r.nearR.draw r.nearR.hold).advR (Ras.mk r.nearR.line r.nearR.dot r.nearR.odd r.nearR.vbl true r.nearR.draw r.nearR.hold).nextN).nextN).advR
                                            (((Ras.mk r.nearR.line r.nearR.dot r.nearR.odd r.nearR.vbl true r.nearR.draw r.nearR.hold).advR (Ras.mk r.nearR.line r.nearR.dot r.nearR.odd r.nearR.vbl true r.nearR.draw r.nearR.hold).nextN).advR
                                                ((Ras.mk r.nearR.line r.nearR.dot r.nearR.odd r.nearR.vbl true r.nearR.draw r.nearR.hold).advR (Ras.mk r.nearR.line r.nearR.dot r.nearR.odd r.nearR.vbl true r.nearR.draw r.nearR.hold).nextN).nextN).nextN).nextN) ==
                                    29780 ||
                                  IntKind.i64.wrap
                                      ((((Ras.mk r.nearR.line r.nearR.dot r.nearR.odd r.nearR.vbl true r.nearR.draw r.nearR.hold).advR (Ras.mk r.nearR.line r.nearR.dot r.nearR.odd r.nearR.vbl true r.nearR.draw r.nearR.hold).nextN).advR
                                            ((Ras.mk r.nearR.line r.nearR.dot r.nearR.odd r.nearR.vbl true r.nearR.draw r.nearR.hold).advR (Ras.mk r.nearR.line r.nearR.dot r.nearR.odd r.nearR.vbl true r.nearR.draw r.nearR.hold).nextN).nextN).nextN +
                                        ((((Ras.mk r.nearR.line r.nearR.dot r.nearR.odd r.nearR.vbl true r.nearR.draw r.nearR.hold).advR (Ras.mk r.nearR.line r.nearR.dot r.nearR.odd r.nearR.vbl true r.nearR.draw r.nearR.hold).nextN).advR
                                                ((Ras.mk r.nearR.line r.nearR.dot r.nearR.odd r.nearR.vbl true r.nearR.draw r.nearR.hold).advR (Ras.mk r.nearR.line r.nearR.dot r.nearR.odd r.nearR.vbl true r.nearR.draw r.nearR.hold).nextN).nextN).advR
                                            (((Ras.mk r.nearR.line r.nearR.dot r.nearR.odd r.nearR.vbl true r.nearR.draw r.nearR.hold).advR (Ras.mk r.nearR.line r.nearR.dot r.nearR.odd r.nearR.vbl true r.nearR.draw r.nearR.hold).nextN).advR
                                                ((Ras.mk r.nearR.line r.nearR.dot r.nearR.odd r.nearR.vbl true r.nearR.draw r.nearR.hold).advR (Ras.mk r.nearR.line r.nearR.dot r.nearR.odd r.nearR.vbl true r.nearR.draw r.nearR.hold).nextN).nextN).nextN).nextN) ==
                                    29781) &&
                              true)
                            (True ∧
                              (((((Ras.mk r.nearR.line r.nearR.dot r.nearR.odd r.nearR.vbl true r.nearR.draw r.nearR.hold).advR (Ras.mk r.nearR.line r.nearR.dot r.nearR.odd r.nearR.vbl true r.nearR.draw r.nearR.hold).nextN).advR
                                            ((Ras.mk r.nearR.line r.nearR.dot r.nearR.odd r.nearR.vbl true r.nearR.draw r.nearR.hold).advR (Ras.mk r.nearR.line r.nearR.dot r.nearR.odd r.nearR.vbl true r.nearR.draw r.nearR.hold).nextN).nextN).nextN ==
                                        2273 ||
                                      (((Ras.mk r.nearR.line r.nearR.dot r.nearR.odd r.nearR.vbl true r.nearR.draw r.nearR.hold).advR (Ras.mk r.nearR.line r.nearR.dot r.nearR.odd r.nearR.vbl true r.nearR.draw r.nearR.hold).nextN).advR
                                            ((Ras.mk r.nearR.line r.nearR.dot r.nearR.odd r.nearR.vbl true r.nearR.draw r.nearR.hold).advR (Ras.mk r.nearR.line r.nearR.dot r.nearR.odd r.nearR.vbl true r.nearR.draw r.nearR.hold).nextN).nextN).nextN ==
                                        2274) &&
                                    (IntKind.i64.wrap
                                          ((((Ras.mk r.nearR.line r.nearR.dot r.nearR.odd r.nearR.vbl true r.nearR.draw r.nearR.hold).advR (Ras.mk r.nearR.line r.nearR.dot r.nearR.odd r.nearR.vbl true r.nearR.draw r.nearR.hold).nextN).advR
                                                ((Ras.mk r.nearR.line r.nearR.dot r.nearR.odd r.nearR.vbl true r.nearR.draw r.nearR.hold).advR (Ras.mk r.nearR.line r.nearR.dot r.nearR.odd r.nearR.vbl true r.nearR.draw r.nearR.hold).nextN).nextN).nextN +
                                            ((((Ras.mk r.nearR.line r.nearR.dot r.nearR.odd r.nearR.vbl true r.nearR.draw r.nearR.hold).advR (Ras.mk r.nearR.line r.nearR.dot r.nearR.odd r.nearR.vbl true r.nearR.draw r.nearR.hold).nextN).advR
                                                    ((Ras.mk r.nearR.line r.nearR.dot r.nearR.odd r.nearR.vbl true r.nearR.draw r.nearR.hold).advR (Ras.mk r.nearR.line r.nearR.dot r.nearR.odd r.nearR.vbl true r.nearR.draw r.nearR.hold).nextN).nextN).advR
                                                (((Ras.mk r.nearR.line r.nearR.dot r.nearR.odd r.nearR.vbl true r.nearR.draw r.nearR.hold).advR (Ras.mk r.nearR.line r.nearR.dot r.nearR.odd r.nearR.vbl true r.nearR.draw r.nearR.hold).nextN).advR
                                                    ((Ras.mk r.nearR.line r.nearR.dot r.nearR.odd r.nearR.vbl true r.nearR.draw r.nearR.hold).advR (Ras.mk r.nearR.line r.nearR.dot r.nearR.odd r.nearR.vbl true r.nearR.draw r.nearR.hold).nextN).nextN).nextN).nextN) ==
                                        29780 ||
                                      IntKind.i64.wrap
                                          ((((Ras.mk r.nearR.line r.nearR.dot r.nearR.odd r.nearR.vbl true r.nearR.draw r.nearR.hold).advR (Ras.mk r.nearR.line r.nearR.dot r.nearR.odd r.nearR.vbl true r.nearR.draw r.nearR.hold).nextN).advR
                                                ((Ras.mk r.nearR.line r.nearR.dot r.nearR.odd r.nearR.vbl true r.nearR.draw r.nearR.hold).advR (Ras.mk r.nearR.line r.nearR.dot r.nearR.odd r.nearR.vbl true r.nearR.draw r.nearR.hold).nextN).nextN).nextN +
                                            ((((Ras.mk r.nearR.line r.nearR.dot r.nearR.odd r.nearR.vbl true r.nearR.draw r.nearR.hold).advR (Ras.mk r.nearR.line r.nearR.dot r.nearR.odd r.nearR.vbl true r.nearR.draw r.nearR.hold).nextN).advR
                                                    ((Ras.mk r.nearR.line r.nearR.dot r.nearR.odd r.nearR.vbl true r.nearR.draw r.nearR.hold).advR (Ras.mk r.nearR.line r.nearR.dot r.nearR.odd r.nearR.vbl true r.nearR.draw r.nearR.hold).nextN).nextN).advR
                                                (((Ras.mk r.nearR.line r.nearR.dot r.nearR.odd r.nearR.vbl true r.nearR.draw r.nearR.hold).advR (Ras.mk r.nearR.line r.nearR.dot r.nearR.odd r.nearR.vbl true r.nearR.draw r.nearR.hold).nextN).advR
                                                    ((Ras.mk r.nearR.line r.nearR.dot r.nearR.odd r.nearR.vbl true r.nearR.draw r.nearR.hold).advR (Ras.mk r.nearR.line r.nearR.dot r.nearR.odd r.nearR.vbl true r.nearR.draw r.nearR.hold).nextN).nextN).nextN).nextN) ==
                                        29781) &&
                                  (((((Ras.mk r.nearR.line r.nearR.dot r.nearR.odd r.nearR.vbl true r.nearR.draw r.nearR.hold).advR (Ras.mk r.nearR.line r.nearR.dot r.nearR.odd r.nearR.vbl true r.nearR.draw r.nearR.hold).nextN).advR
                                              ((Ras.mk r.nearR.line r.nearR.dot r.nearR.odd r.nearR.vbl true r.nearR.draw r.nearR.hold).advR (Ras.mk r.nearR.line r.nearR.dot r.nearR.odd r.nearR.vbl true r.nearR.draw r.nearR.hold).nextN).nextN).advR
                                          (((Ras.mk r.nearR.line r.nearR.dot r.nearR.odd r.nearR.vbl true r.nearR.draw r.nearR.hold).advR (Ras.mk r.nearR.line r.nearR.dot r.nearR.odd r.nearR.vbl true r.nearR.draw r.nearR.hold).nextN).advR
                                              ((Ras.mk r.nearR.line r.nearR.dot r.nearR.odd r.nearR.vbl true r.nearR.draw r.nearR.hold).advR (Ras.mk r.nearR.line r.nearR.dot r.nearR.odd r.nearR.vbl true r.nearR.draw r.nearR.hold).nextN).nextN).nextN).advR
                                      ((((Ras.mk r.nearR.line r.nearR.dot r.nearR.odd r.nearR.vbl true r.nearR.draw r.nearR.hold).advR (Ras.mk r.nearR.line r.nearR.dot r.nearR.odd r.nearR.vbl true r.nearR.draw r.nearR.hold).nextN).advR
                                              ((Ras.mk r.nearR.line r.nearR.dot r.nearR.odd r.nearR.vbl true r.nearR.draw r.nearR.hold).advR (Ras.mk r.nearR.line r.nearR.dot r.nearR.odd r.nearR.vbl true r.nearR.draw r.nearR.hold).nextN).nextN).advR
                                          (((Ras.mk r.nearR.line r.nearR.dot r.nearR.odd r.nearR.vbl true r.nearR.draw r.nearR.hold).advR (Ras.mk r.nearR.line r.nearR.dot r.nearR.odd r.nearR.vbl true r.nearR.draw r.nearR.hold).nextN).advR
                                              ((Ras.mk r.nearR.line r.nearR.dot r.nearR.odd r.nearR.vbl true r.nearR.draw r.nearR.hold).advR (Ras.mk r.nearR.line r.nearR.dot r.nearR.odd r.nearR.vbl true r.nearR.draw r.nearR.hold).nextN).nextN).nextN).nextN).up) =
                                true)
                            ((((((Ras.mk r.nearR.line r.nearR.dot r.nearR.odd r.nearR.vbl true r.nearR.draw r.nearR.hold).advR (Ras.mk r.nearR.line r.nearR.dot r.nearR.odd r.nearR.vbl true r.nearR.draw r.nearR.hold).nextN).advR
                                          ((Ras.mk r.nearR.line r.nearR.dot r.nearR.odd r.nearR.vbl true r.nearR.draw r.nearR.hold).advR (Ras.mk r.nearR.line r.nearR.dot r.nearR.odd r.nearR.vbl true r.nearR.draw r.nearR.hold).nextN).nextN).nextN ==
                                      2273 ||
                                    (((Ras.mk r.nearR.line r.nearR.dot r.nearR.odd r.nearR.vbl true r.nearR.draw r.nearR.hold).advR (Ras.mk r.nearR.line r.nearR.dot r.nearR.odd r.nearR.vbl true r.nearR.draw r.nearR.hold).nextN).advR
                                          ((Ras.mk r.nearR.line r.nearR.dot r.nearR.odd r.nearR.vbl true r.nearR.draw r.nearR.hold).advR (Ras.mk r.nearR.line r.nearR.dot r.nearR.odd r.nearR.vbl true r.nearR.draw r.nearR.hold).nextN).nextN).nextN ==
                                      2274) &&
                                  (IntKind.i64.wrap
                                        ((((Ras.mk r.nearR.line r.nearR.dot r.nearR.odd r.nearR.vbl true r.nearR.draw r.nearR.hold).advR (Ras.mk r.nearR.line r.nearR.dot r.nearR.odd r.nearR.vbl true r.nearR.draw r.nearR.hold).nextN).advR
                                              ((Ras.mk r.nearR.line r.nearR.dot r.nearR.odd r.nearR.vbl true r.nearR.draw r.nearR.hold).advR (Ras.mk r.nearR.line r.nearR.dot r.nearR.odd r.nearR.vbl true r.nearR.draw r.nearR.hold).nextN).nextN).nextN +
                                          ((((Ras.mk r.nearR.line r.nearR.dot r.nearR.odd r.nearR.vbl true r.nearR.draw r.nearR.hold).advR (Ras.mk r.nearR.line r.nearR.dot r.nearR.odd r.nearR.vbl true r.nearR.draw r.nearR.hold).nextN).advR
                                                  ((Ras.mk r.nearR.line r.nearR.dot r.nearR.odd r.nearR.vbl true r.nearR.draw r.nearR.hold).advR (Ras.mk r.nearR.line r.nearR.dot r.nearR.odd r.nearR.vbl true r.nearR.draw r.nearR.hold).nextN).nextN).advR
                                              (((Ras.mk r.nearR.line r.nearR.dot r.nearR.odd r.nearR.vbl true r.nearR.draw r.nearR.hold).advR (Ras.mk r.nearR.line r.nearR.dot r.nearR.odd r.nearR.vbl true r.nearR.draw r.nearR.hold).nextN).advR
                                                  ((Ras.mk r.nearR.line r.nearR.dot r.nearR.odd r.nearR.vbl true r.nearR.draw r.nearR.hold).advR (Ras.mk r.nearR.line r.nearR.dot r.nearR.odd r.nearR.vbl true r.nearR.draw r.nearR.hold).nextN).nextN).nextN).nextN) ==
                                      29780 ||
                                    IntKind.i64.wrap
                                        ((((Ras.mk r.nearR.line r.nearR.dot r.nearR.odd r.nearR.vbl true r.nearR.draw r.nearR.hold).advR (Ras.mk r.nearR.line r.nearR.dot r.nearR.odd r.nearR.vbl true r.nearR.draw r.nearR.hold).nextN).advR
                                              ((Ras.mk r.nearR.line r.nearR.dot r.nearR.odd r.nearR.vbl true r.nearR.draw r.nearR.hold).advR (Ras.mk r.nearR.line r.nearR.dot r.nearR.odd r.nearR.vbl true r.nearR.draw r.nearR.hold).nextN).nextN).nextN +
                                          ((((Ras.mk r.nearR.line r.nearR.dot r.nearR.odd r.nearR.vbl true r.nearR.draw r.nearR.hold).advR (Ras.mk r.nearR.line r.nearR.dot r.nearR.odd r.nearR.vbl true r.nearR.draw r.nearR.hold).nextN).advR
                                                  ((Ras.mk r.nearR.line r.nearR.dot r.nearR.odd r.nearR.vbl true r.nearR.draw r.nearR.hold).advR (Ras.mk r.nearR.line r.nearR.dot r.nearR.odd r.nearR.vbl true r.nearR.draw r.nearR.hold).nextN).nextN).advR
                                              (((Ras.mk r.nearR.line r.nearR.dot r.nearR.odd r.nearR.vbl true r.nearR.draw r.nearR.hold).advR (Ras.mk r.nearR.line r.nearR.dot r.nearR.odd r.nearR.vbl true r.nearR.draw r.nearR.hold).nextN).advR
                                                  ((Ras.mk r.nearR.line r.nearR.dot r.nearR.odd r.nearR.vbl true r.nearR.draw r.nearR.hold).advR (Ras.mk r.nearR.line r.nearR.dot r.nearR.odd r.nearR.vbl true r.nearR.draw r.nearR.hold).nextN).nextN).nextN).nextN) ==
                                      29781) &&
                                false) =
                              true)))
      (True ∧
        Chk (i64 (Ras.mk r.nearR.line r.nearR.dot r.nearR.odd r.nearR.vbl true r.nearR.draw r.nearR.hold).nextN) ∧
          True ∧
            br
              (!((Ras.mk r.nearR.line r.nearR.dot r.nearR.odd r.nearR.vbl true r.nearR.draw r.nearR.hold).advR (Ras.mk r.nearR.line r.nearR.dot r.nearR.odd r.nearR.vbl true r.nearR.draw r.nearR.hold).nextN).up ||
                !((Ras.mk r.nearR.line r.nearR.dot r.nearR.odd r.nearR.vbl true r.nearR.draw r.nearR.hold).advR (Ras.mk r.nearR.line r.nearR.dot r.nearR.odd r.nearR.vbl true r.nearR.draw r.nearR.hold).nextN).vbl)
              (false = true)
              (True ∧
                Chk (i64 ((Ras.mk r.nearR.line r.nearR.dot r.nearR.odd r.nearR.vbl true r.nearR.draw r.nearR.hold).advR (Ras.mk r.nearR.line r.nearR.dot r.nearR.odd r.nearR.vbl true r.nearR.draw r.nearR.hold).nextN).nextN) ∧
                  True ∧
                    Chk
                        (i64
                          (((Ras.mk r.nearR.line r.nearR.dot r.nearR.odd r.nearR.vbl true r.nearR.draw r.nearR.hold).advR (Ras.mk r.nearR.line r.nearR.dot r.nearR.odd r.nearR.vbl true r.nearR.draw r.nearR.hold).nextN).advR
                              ((Ras.mk r.nearR.line r.nearR.dot r.nearR.odd r.nearR.vbl true r.nearR.draw r.nearR.hold).advR (Ras.mk r.nearR.line r.nearR.dot r.nearR.odd r.nearR.vbl true r.nearR.draw r.nearR.hold).nextN).nextN).nextN) ∧
                      br
                        ((((Ras.mk r.nearR.line r.nearR.dot r.nearR.odd r.nearR.vbl true r.nearR.draw r.nearR.hold).advR (Ras.mk r.nearR.line r.nearR.dot r.nearR.odd r.nearR.vbl true r.nearR.draw r.nearR.hold).nextN).nextN == 2273 ||
                              ((Ras.mk r.nearR.line r.nearR.dot r.nearR.odd r.nearR.vbl true r.nearR.draw r.nearR.hold).advR (Ras.mk r.nearR.line r.nearR.dot r.nearR.odd r.nearR.vbl true r.nearR.draw r.nearR.hold).nextN).nextN == 2274) &&
                            (IntKind.i64.wrap
                                  (((Ras.mk r.nearR.line r.nearR.dot r.nearR.odd r.nearR.vbl true r.nearR.draw r.nearR.hold).advR (Ras.mk r.nearR.line r.nearR.dot r.nearR.odd r.nearR.vbl true r.nearR.draw r.nearR.hold).nextN).nextN +
                                    (((Ras.mk r.nearR.line r.nearR.dot r.nearR.odd r.nearR.vbl true r.nearR.draw r.nearR.hold).advR (Ras.mk r.nearR.line r.nearR.dot r.nearR.odd r.nearR.vbl true r.nearR.draw r.nearR.hold).nextN).advR
                                        ((Ras.mk r.nearR.line r.nearR.dot r.nearR.odd r.nearR.vbl true r.nearR.draw r.nearR.hold).advR (Ras.mk r.nearR.line r.nearR.dot r.nearR.odd r.nearR.vbl true r.nearR.draw r.nearR.hold).nextN).nextN).nextN) ==
                                29780 ||
                              IntKind.i64.wrap
                                  (((Ras.mk r.nearR.line r.nearR.dot r.nearR.odd r.nearR.vbl true r.nearR.draw r.nearR.hold).advR (Ras.mk r.nearR.line r.nearR.dot r.nearR.odd r.nearR.vbl true r.nearR.draw r.nearR.hold).nextN).nextN +
                                    (((Ras.mk r.nearR.line r.nearR.dot r.nearR.odd r.nearR.vbl true r.nearR.draw r.nearR.hold).advR (Ras.mk r.nearR.line r.nearR.dot r.nearR.odd r.nearR.vbl true r.nearR.draw r.nearR.hold).nextN).advR
                                        ((Ras.mk r.nearR.line r.nearR.dot r.nearR.odd r.nearR.vbl true r.nearR.draw r.nearR.hold).advR (Ras.mk r.nearR.line r.nearR.dot r.nearR.odd r.nearR.vbl true r.nearR.draw r.nearR.hold).nextN).nextN).nextN) ==
                                29781) &&
                          true)
                        (True ∧
                          ((((Ras.mk r.nearR.line r.nearR.dot r.nearR.odd r.nearR.vbl true r.nearR.draw r.nearR.hold).advR (Ras.mk r.nearR.line r.nearR.dot r.nearR.odd r.nearR.vbl true r.nearR.draw r.nearR.hold).nextN).nextN == 2273 ||
                                  ((Ras.mk r.nearR.line r.nearR.dot r.nearR.odd r.nearR.vbl true r.nearR.draw r.nearR.hold).advR (Ras.mk r.nearR.line r.nearR.dot r.nearR.odd r.nearR.vbl true r.nearR.draw r.nearR.hold).nextN).nextN == 2274) &&
                                (IntKind.i64.wrap
                                      (((Ras.mk r.nearR.line r.nearR.dot r.nearR.odd r.nearR.vbl true r.nearR.draw r.nearR.hold).advR (Ras.mk r.nearR.line r.nearR.dot r.nearR.odd r.nearR.vbl true r.nearR.draw r.nearR.hold).nextN).nextN +
                                        (((Ras.mk r.nearR.line r.nearR.dot r.nearR.odd r.nearR.vbl true r.nearR.draw r.nearR.hold).advR (Ras.mk r.nearR.line r.nearR.dot r.nearR.odd r.nearR.vbl true r.nearR.draw r.nearR.hold).nextN).advR
                                            ((Ras.mk r.nearR.line r.nearR.dot r.nearR.odd r.nearR.vbl true r.nearR.draw r.nearR.hold).advR (Ras.mk r.nearR.line r.nearR.dot r.nearR.odd r.nearR.vbl true r.nearR.draw r.nearR.hold).nextN).nextN).nextN) ==
                                    29780 ||
                                  IntKind.i64.wrap
                                      (((Ras.mk r.nearR.line r.nearR.dot r.nearR.odd r.nearR.vbl true r.nearR.draw r.nearR.hold).advR (Ras.mk r.nearR.line r.nearR.dot r.nearR.odd r.nearR.vbl true r.nearR.draw r.nearR.hold).nextN).nextN +
                                        (((Ras.mk r.nearR.line r.nearR.dot r.nearR.odd r.nearR.vbl true r.nearR.draw r.nearR.hold).advR (Ras.mk r.nearR.line r.nearR.dot r.nearR.odd r.nearR.vbl true r.nearR.draw r.nearR.hold).nextN).advR
                                            ((Ras.mk r.nearR.line r.nearR.dot r.nearR.odd r.nearR.vbl true r.nearR.draw r.nearR.hold).advR (Ras.mk r.nearR.line r.nearR.dot r.nearR.odd r.nearR.vbl true r.nearR.draw r.nearR.hold).nextN).nextN).nextN) ==
                                    29781) &&
                              ((((Ras.mk r.nearR.line r.nearR.dot r.nearR.odd r.nearR.vbl true r.nearR.draw r.nearR.hold).advR (Ras.mk r.nearR.line r.nearR.dot r.nearR.odd r.nearR.vbl true r.nearR.draw r.nearR.hold).nextN).advR
                                      ((Ras.mk r.nearR.line r.nearR.dot r.nearR.odd r.nearR.vbl true r.nearR.draw r.nearR.hold).advR (Ras.mk r.nearR.line r.nearR.dot r.nearR.odd r.nearR.vbl true r.nearR.draw r.nearR.hold).nextN).nextN).advR
                                  (((Ras.mk r.nearR.line r.nearR.dot r.nearR.odd r.nearR.vbl true r.nearR.draw r.nearR.hold).advR (Ras.mk r.nearR.line r.nearR.dot r.nearR.odd r.nearR.vbl true r.nearR.draw r.nearR.hold).nextN).advR
                                      ((Ras.mk r.nearR.line r.nearR.dot r.nearR.odd r.nearR.vbl true r.nearR.draw r.nearR.hold).advR (Ras.mk r.nearR.line r.nearR.dot r.nearR.odd r.nearR.vbl true r.nearR.draw r.nearR.hold).nextN).nextN).nextN).up) =
                            true)
                        (((((Ras.mk r.nearR.line r.nearR.dot r.nearR.odd r.nearR.vbl true r.nearR.draw r.nearR.hold).advR (Ras.mk r.nearR.line r.nearR.dot r.nearR.odd r.nearR.vbl true r.nearR.draw r.nearR.hold).nextN).nextN == 2273 ||
                                ((Ras.mk r.nearR.line r.nearR.dot r.nearR.odd r.nearR.vbl true r.nearR.draw r.nearR.hold).advR (Ras.mk r.nearR.line r.nearR.dot r.nearR.odd r.nearR.vbl true r.nearR.draw r.nearR.hold).nextN).nextN == 2274) &&
                              (IntKind.i64.wrap
                                    (((Ras.mk r.nearR.line r.nearR.dot r.nearR.odd r.nearR.vbl true r.nearR.draw r.nearR.hold).advR (Ras.mk r.nearR.line r.nearR.dot r.nearR.odd r.nearR.vbl true r.nearR.draw r.nearR.hold).nextN).nextN +
                                      (((Ras.mk r.nearR.line r.nearR.dot r.nearR.odd r.nearR.vbl true r.nearR.draw r.nearR.hold).advR (Ras.mk r.nearR.line r.nearR.dot r.nearR.odd r.nearR.vbl true r.nearR.draw r.nearR.hold).nextN).advR
                                          ((Ras.mk r.nearR.line r.nearR.dot r.nearR.odd r.nearR.vbl true r.nearR.draw r.nearR.hold).advR (Ras.mk r.nearR.line r.nearR.dot r.nearR.odd r.nearR.vbl true r.nearR.draw r.nearR.hold).nextN).nextN).nextN) ==
                                  29780 ||
                                IntKind.i64.wrap
                                    (((Ras.mk r.nearR.line r.nearR.dot r.nearR.odd r.nearR.vbl true r.nearR.draw r.nearR.hold).advR (Ras.mk r.nearR.line r.nearR.dot r.nearR.odd r.nearR.vbl true r.nearR.draw r.nearR.hold).nextN).nextN +
                                      (((Ras.mk r.nearR.line r.nearR.dot r.nearR.odd r.nearR.vbl true r.nearR.draw r.nearR.hold).advR (Ras.mk r.nearR.line r.nearR.dot r.nearR.odd r.nearR.vbl true r.nearR.draw r.nearR.hold).nextN).advR
                                          ((Ras.mk r.nearR.line r.nearR.dot r.nearR.odd r.nearR.vbl true r.nearR.draw r.nearR.hold).advR (Ras.mk r.nearR.line r.nearR.dot r.nearR.odd r.nearR.vbl true r.nearR.draw r.nearR.hold).nextN).nextN).nextN) ==
                                  29781) &&
                            false) =
                          true)))) := by kernel_rfl

end Go.Sx

namespace Go.Sx
open Go.Proofs
set_option linter.unusedVariables false
set_option linter.unusedSimpArgs false

theorem nextJ_bounds {r : Ras} (h : r.valid = true) : r.nextD ≤ 3 * r.nextJ ∧ 3 * (r.nextJ : Int) ≤ r.nextD + 2 ∧ 1 ≤ r.nextJ := by
  have hd := nextD_range h
  unfold Ras.nextJ; omega

theorem flips {r : Ras} (h : r.valid = true) : (Ras.its (3 * r.nextJ) r).vbl = !r.vbl := by
  have hb := nextJ_bounds h
  have := flag_at h (3 * r.nextJ) (by omega)
  rw [if_neg (by omega)] at this
  exact this

/-- From a set flag: it is cleared at line 261, dot 1 (or two dots behind). -/
theorem falls {r : Ras} (h : r.valid = true) (hv : r.vbl = true) : (Ras.its (3 * r.nextJ) r).pl = r.pl + 3 * r.nextJ ∧ (Ras.its (3 * r.nextJ) r).odd = r.odd ∧ r.nextD = 89002 - r.pl ∧ (Ras.its (3 * r.nextJ) r).hold = false := by
  have hb := nextJ_bounds h
  have hD : r.nextD = 89002 - r.pl := by unfold Ras.nextD; rw [if_pos hv]
  have hvv := h
  rw [valid_iff] at hvv
  have h1 := hvv.2.2.2.2.1 hv
  have hle : 89341 - r.pl ≤ r.left := by unfold Ras.left; split <;> omega
  obtain ⟨s1, _, _⟩ := its_skip h (n := ((3 * r.nextJ : Nat) : Int)) (by omega) (by omega)
  rw [Int.toNat_natCast] at s1
  rw [s1, jump_pl]
  refine ⟨by omega, rfl, hD, ?_⟩
  show (if r.pl < 82182 ∧ _ then false else r.hold) = false
  rw [if_neg (by omega)]
  cases hh : r.hold
  · rfl
  · have := hvv.2.2.2.2.2 hh; omega

/-- From a clear flag: it is set at line 241, dot 1 (or two dots behind). -/
theorem rises {r : Ras} (h : r.valid = true) (hv : r.vbl = false) : (Ras.its (3 * r.nextJ) r).pl = 82182 + (3 * r.nextJ - r.nextD) := by
  have hb := nextJ_bounds h
  have hp := pl_range h
  have hl := left_range h
  have hle : 89341 - r.pl ≤ r.left := by unfold Ras.left; split <;> omega
  by_cases c : 82181 < r.pl ∨ r.hold = true
  · have hD : r.nextD = r.left + 82182 := by unfold Ras.nextD; rw [if_neg (by rw [hv]; simp), if_pos c]
    have e2 : 3 * r.nextJ = r.left.toNat + (3 * r.nextJ - r.left.toNat) := by omega
    have e3 : Ras.its (3 * r.nextJ) r = Ras.its (3 * r.nextJ - r.left.toNat) (r.top (!r.odd)) := by
      conv => lhs; rw [e2]
      rw [its_add, (its_left h).1]
    have tl : (r.top (!r.odd)).left ≥ 89341 := by
      unfold Ras.left; rw [top_pl]; split <;> omega
    obtain ⟨s1, _, _⟩ := its_skip (top_valid r (!r.odd)) (n := ((3 * r.nextJ - r.left.toNat : Nat) : Int)) (by omega) (by omega)
    rw [Int.toNat_natCast] at s1
    rw [e3, s1, jump_pl, top_pl]; omega
  · have hD : r.nextD = 82182 - r.pl := by unfold Ras.nextD; rw [if_neg (by rw [hv]; simp), if_neg c]
    have c1 : r.pl ≤ 82181 := by
      refine Classical.byContradiction fun k => ?_
      exact c (.inl (by omega))
    obtain ⟨s1, _, _⟩ := its_skip h (n := ((3 * r.nextJ : Nat) : Int)) (by omega) (by omega)
    rw [Int.toNat_natCast] at s1
    rw [s1, jump_pl]; omega
end Go.Sx

namespace Go.Sx
open Go.Proofs
set_option linter.unusedVariables false
set_option linter.unusedSimpArgs false

theorem nextN_J {r : Ras} (h : r.valid = true) (hn : r.nmi = true) : r.nextN = r.nextJ := by
  have hd := nextD_range h
  unfold Ras.nextN Ras.nextJ; rw [if_pos h, if_pos hn]; omega

theorem adv_next {r : Ras} (h : r.valid = true) (hn : r.nmi = true) : r.advR r.nextN = Ras.its (3 * r.nextJ) r := by
  rw [nextN_J h hn, (advR_eq h _).1, Int.toNat_natCast]

/-- Of a raster that stands where the flag has just risen. -/
theorem blank_shape {t : Ras} (h : t.valid = true) (hv : t.vbl = true) (h1 : 82182 ≤ t.pl) (h2 : t.pl ≤ 82184) :
    (t.nextJ = 2273 ∨ t.nextJ = 2274) ∧ (t.nextJ + (Ras.its (3 * t.nextJ) t).nextJ = 29780 ∨ t.nextJ + (Ras.its (3 * t.nextJ) t).nextJ = 29781) ∧
    (Ras.its (3 * (Ras.its (3 * t.nextJ) t).nextJ) (Ras.its (3 * t.nextJ) t)).vbl = true := by
  obtain ⟨p1, p2, p3, p4⟩ := falls h hv
  have hb := nextJ_bounds h
  have hs := its_valid (3 * t.nextJ) h
  have hf := flips h
  rw [hv] at hf
  generalize Ras.its (3 * t.nextJ) t = s at *
  have hbs := nextJ_bounds hs
  have hf2 := flips hs
  rw [hf] at hf2
  have hD : s.nextD = s.left + 82182 := by
    unfold Ras.nextD
    rw [if_neg (by rw [hf]; simp), if_pos (.inl (by omega))]
  have hL : s.left = 89341 - s.pl ∨ s.left = 89342 - s.pl := by
    unfold Ras.left; split
    · exact .inl rfl
    · exact .inr rfl
  refine ⟨by omega, by omega, hf2⟩
end Go.Sx

namespace Go.Sx
open Go.Proofs
set_option linter.unusedVariables false
set_option linter.unusedSimpArgs false

theorem lines_core {x A B C : Ras} (h : x.valid = true) (hn : x.nmi = true) (hb : x.vbl = false) (hA : A = x.advR x.nextN) (hB : B = A.advR A.nextN) (hC : C = B.advR B.nextN) :
    A.up = true ∧ A.vbl = true ∧ (A.nextN = 2273 ∨ A.nextN = 2274) ∧ (A.nextN + B.nextN = 29780 ∨ A.nextN + B.nextN = 29781) ∧ C.up = true := by
  rw [adv_next h hn] at hA
  have vA : A.valid = true := by rw [hA]; exact its_valid _ h
  have nA : A.nmi = true := by rw [hA, (its_draw _ _).2]; exact hn
  have bA : A.vbl = true := by rw [hA, flips h, hb]; rfl
  have pA := rises h hb
  rw [← hA] at pA
  have bd := nextJ_bounds h
  rw [adv_next vA nA] at hB
  have vB : B.valid = true := by rw [hB]; exact its_valid _ vA
  have nB : B.nmi = true := by rw [hB, (its_draw _ _).2]; exact nA
  rw [adv_next vB nB] at hC
  have vC : C.valid = true := by rw [hC]; exact its_valid _ vB
  have nC : C.nmi = true := by rw [hC, (its_draw _ _).2]; exact nB
  obtain ⟨s1, s2, s3⟩ := blank_shape vA bA (by omega) (by omega)
  rw [← hB] at s2 s3
  rw [← hC] at s3
  rw [nextN_J vA nA, nextN_J vB nB]
  refine ⟨by unfold Ras.up; rw [vA, bA, nA]; rfl, bA, by omega, by omega, by unfold Ras.up; rw [vC, s3, nC]; rfl⟩

theorem nextN_i64 (x : Ras) : i64 x.nextN := by
  unfold Ras.nextN i64 never
  by_cases h : x.valid = true
  · have := nextD_range h
    rw [if_pos h]; split <;> omega
  · rw [if_neg h]; omega

theorem gA_ok : GamOK (E0 gA noLoop) :=
  gam_ok rfl ⟨con30.of, con31.of, con34.of, con35.of, con15.of, con16.of, con21.of, con18.of, con22.of, con17.of, con29.of, con19.of, con20.of, con36.of, con25.of, con26.of, con23.of, con24.of, con27.of, con28.of, trivial⟩

theorem lines_end {A B C : Ras} (h : A.up = true ∧ A.vbl = true ∧ (A.nextN = 2273 ∨ A.nextN = 2274) ∧ (A.nextN + B.nextN = 29780 ∨ A.nextN + B.nextN = 29781) ∧ C.up = true) :
    br (!A.up || !A.vbl) (false = true) (True ∧ Chk (i64 A.nextN) ∧ True ∧ Chk (i64 B.nextN) ∧
      br ((A.nextN == 2273 || A.nextN == 2274) && (IntKind.i64.wrap (A.nextN + B.nextN) == 29780 || IntKind.i64.wrap (A.nextN + B.nextN) == 29781) && true)
        (True ∧ ((A.nextN == 2273 || A.nextN == 2274) && (IntKind.i64.wrap (A.nextN + B.nextN) == 29780 || IntKind.i64.wrap (A.nextN + B.nextN) == 29781) && C.up) = true)
        (((A.nextN == 2273 || A.nextN == 2274) && (IntKind.i64.wrap (A.nextN + B.nextN) == 29780 || IntKind.i64.wrap (A.nextN + B.nextN) == 29781) && false) = true)) := by
  obtain ⟨a, b, c, d, e⟩ := h
  have w : IntKind.i64.wrap (A.nextN + B.nextN) = A.nextN + B.nextN := IntWalk.i64_in _ (by omega)
  have c' : (A.nextN == 2273 || A.nextN == 2274) = true := by simpa using c
  have d' : (A.nextN + B.nextN == 29780 || A.nextN + B.nextN == 29781) = true := by simpa using d
  rw [w, c', d', a, b, e]
  exact ⟨trivial, ⟨nextN_i64 A⟩, trivial, ⟨nextN_i64 B⟩, trivial, rfl⟩

theorem w10 (svs : List SV) (h : IsL Try.prog 3 [23] svs) : bodyK (E0 gA noLoop) (callN (E0 gA noLoop) 1) 10 Try.f10 svs [] (fun x _ => isTrue x) := by
  obtain ⟨a, rfl, h1⟩ := isL1 h
  obtain ⟨r, rfl, hr⟩ := is_ras h1
  rw [t10]
  have hq := valid_with (near_valid r) r.nearR.odd true r.nearR.draw
  have hn : (Ras.mk r.nearR.line r.nearR.dot r.nearR.odd r.nearR.vbl true r.nearR.draw r.nearR.hold).nmi = true := rfl
  generalize Ras.mk r.nearR.line r.nearR.dot r.nearR.odd r.nearR.vbl true r.nearR.draw r.nearR.hold = q at *
  refine ⟨⟨hr⟩, trivial, br_in (fun u => ?_) (fun u => ?_)⟩
  · have hv : q.vbl = true := by
      unfold Ras.up at u; rw [hq, hn] at u; simpa using u
    have h2 : (q.advR q.nextN).valid = true := advR_valid hq _
    have h3 : (q.advR q.nextN).nmi = true := by rw [adv_next hq hn, (its_draw _ _).2]; exact hn
    have h4 : (q.advR q.nextN).vbl = false := by rw [adv_next hq hn, flips hq, hv]; rfl
    exact ⟨trivial, ⟨nextN_i64 q⟩, trivial, ⟨nextN_i64 _⟩, trivial, lines_end (lines_core h2 h3 h4 rfl rfl rfl)⟩
  · have hv : q.vbl = false := by
      unfold Ras.up at u; rw [hq, hn] at u; simpa using u
    exact ⟨trivial, ⟨nextN_i64 q⟩, trivial, lines_end (lines_core hq hn hv rfl rfl rfl)⟩
end Go.Sx

namespace Go.Sx
open Go.Proofs
set_option linter.unusedVariables false
set_option linter.unusedSimpArgs false

theorem t12 (r : Ras) (n : Int) : bodyK (E0 gA noLoop) (callN (E0 gA noLoop) 1) 12 Try.f12 [r.sv, .i .i64 n] [] (fun x _ => isTrue x) = (
  Chk r.fit ∧
  True ∧
    Chk (spanOK n 0 29700) ∧
      Chk (i64 (spf n 0 29700)) ∧
        br (!((Ras.mk 241 0 r.nearR.odd false true r.nearR.draw false).stV != 0 || ((Ras.mk 241 0 r.nearR.odd false true r.nearR.draw false).stR.advR (spf n 0 29700)).vbl) && true)
          (True ∧
            br ((Ras.mk 241 0 r.nearR.odd false true r.nearR.draw false).stV != 0 || ((Ras.mk 241 0 r.nearR.odd false true r.nearR.draw false).stR.advR (spf n 0 29700)).vbl || ((Ras.mk 241 0 r.nearR.odd false true r.nearR.draw false).stR.advR (spf n 0 29700)).up) (false = true)
              (True ∧
                br ((Ras.mk 241 0 r.nearR.odd false true r.nearR.draw false).stR.nextN != 29780 && (Ras.mk 241 0 r.nearR.odd false true r.nearR.draw false).stR.nextN != 29781) (false = true)
                  (Chk (spanOK n 1 2270) ∧
                    Chk (i64 (spf n 1 2270)) ∧
                      True ∧
                        br (!((Ras.mk 241 0 r.nearR.odd false true r.nearR.draw false).advR (spf n 1 2270)).up) (false = true)
                          (True ∧
                            True ∧
                              br (!(((Ras.mk 241 0 r.nearR.odd false true r.nearR.draw false).advR (spf n 1 2270)).stV != 128 || ((Ras.mk 241 0 r.nearR.odd false true r.nearR.draw false).advR (spf n 1 2270)).stR.stV != 0) && true)
                                (True ∧
                                  br
                                    (((Ras.mk 241 0 r.nearR.odd false true r.nearR.draw false).advR (spf n 1 2270)).stV != 128 || ((Ras.mk 241 0 r.nearR.odd false true r.nearR.draw false).advR (spf n 1 2270)).stR.stV != 0 || ((Ras.mk 241 0 r.nearR.odd false true r.nearR.draw false).advR (spf n 1 2270)).stR.up ||
                                      !(((Ras.mk 241 0 r.nearR.odd false true r.nearR.draw false).advR (spf n 1 2270)).stR.line == ((Ras.mk 241 0 r.nearR.odd false true r.nearR.draw false).advR (spf n 1 2270)).stR.stR.line &&
                                          (((Ras.mk 241 0 r.nearR.odd false true r.nearR.draw false).advR (spf n 1 2270)).stR.dot == ((Ras.mk 241 0 r.nearR.odd false true r.nearR.draw false).advR (spf n 1 2270)).stR.stR.dot &&
                                            (((Ras.mk 241 0 r.nearR.odd false true r.nearR.draw false).advR (spf n 1 2270)).stR.odd == ((Ras.mk 241 0 r.nearR.odd false true r.nearR.draw false).advR (spf n 1 2270)).stR.stR.odd &&
                                              (((Ras.mk 241 0 r.nearR.odd false true r.nearR.draw false).advR (spf n 1 2270)).stR.vbl == ((Ras.mk 241 0 r.nearR.odd false true r.nearR.draw false).advR (spf n 1 2270)).stR.stR.vbl &&
                                                (((Ras.mk 241 0 r.nearR.odd false true r.nearR.draw false).advR (spf n 1 2270)).stR.nmi == ((Ras.mk 241 0 r.nearR.odd false true r.nearR.draw false).advR (spf n 1 2270)).stR.stR.nmi &&
                                                  (((Ras.mk 241 0 r.nearR.odd false true r.nearR.draw false).advR (spf n 1 2270)).stR.draw == ((Ras.mk 241 0 r.nearR.odd false true r.nearR.draw false).advR (spf n 1 2270)).stR.stR.draw &&
                                                    (((Ras.mk 241 0 r.nearR.odd false true r.nearR.draw false).advR (spf n 1 2270)).stR.hold == ((Ras.mk 241 0 r.nearR.odd false true r.nearR.draw false).advR (spf n 1 2270)).stR.stR.hold && true))))))))
                                    (false = true)
                                    ((((Ras.mk 241 0 r.nearR.odd false true r.nearR.draw false).advR (spf n 1 2270)).stR.line == ((Ras.mk 241 0 r.nearR.odd false true r.nearR.draw false).advR (spf n 1 2270)).line &&
                                        (((Ras.mk 241 0 r.nearR.odd false true r.nearR.draw false).advR (spf n 1 2270)).stR.dot == ((Ras.mk 241 0 r.nearR.odd false true r.nearR.draw false).advR (spf n 1 2270)).dot &&
                                          (((Ras.mk 241 0 r.nearR.odd false true r.nearR.draw false).advR (spf n 1 2270)).stR.odd == ((Ras.mk 241 0 r.nearR.odd false true r.nearR.draw false).advR (spf n 1 2270)).odd &&
                                            (((Ras.mk 241 0 r.nearR.odd false true r.nearR.draw false).advR (spf n 1 2270)).stR.vbl == false &&
                                              (((Ras.mk 241 0 r.nearR.odd false true r.nearR.draw false).advR (spf n 1 2270)).stR.nmi == ((Ras.mk 241 0 r.nearR.odd false true r.nearR.draw false).advR (spf n 1 2270)).nmi &&
                                                (((Ras.mk 241 0 r.nearR.odd false true r.nearR.draw false).advR (spf n 1 2270)).stR.draw == ((Ras.mk 241 0 r.nearR.odd false true r.nearR.draw false).advR (spf n 1 2270)).draw &&
                                                  (((Ras.mk 241 0 r.nearR.odd false true r.nearR.draw false).advR (spf n 1 2270)).stR.hold == ((Ras.mk 241 0 r.nearR.odd false true r.nearR.draw false).advR (spf n 1 2270)).hold && true))))))) =
                                      true))
                                (br
                                  (((Ras.mk 241 0 r.nearR.odd false true r.nearR.draw false).advR (spf n 1 2270)).stV != 128 || ((Ras.mk 241 0 r.nearR.odd false true r.nearR.draw false).advR (spf n 1 2270)).stR.stV != 0 || false ||
                                    !(((Ras.mk 241 0 r.nearR.odd false true r.nearR.draw false).advR (spf n 1 2270)).stR.line == ((Ras.mk 241 0 r.nearR.odd false true r.nearR.draw false).advR (spf n 1 2270)).stR.stR.line &&
                                        (((Ras.mk 241 0 r.nearR.odd false true r.nearR.draw false).advR (spf n 1 2270)).stR.dot == ((Ras.mk 241 0 r.nearR.odd false true r.nearR.draw false).advR (spf n 1 2270)).stR.stR.dot &&
                                          (((Ras.mk 241 0 r.nearR.odd false true r.nearR.draw false).advR (spf n 1 2270)).stR.odd == ((Ras.mk 241 0 r.nearR.odd false true r.nearR.draw false).advR (spf n 1 2270)).stR.stR.odd &&
                                            (((Ras.mk 241 0 r.nearR.odd false true r.nearR.draw false).advR (spf n 1 2270)).stR.vbl == ((Ras.mk 241 0 r.nearR.odd false true r.nearR.draw false).advR (spf n 1 2270)).stR.stR.vbl &&
                                              (((Ras.mk 241 0 r.nearR.odd false true r.nearR.draw false).advR (spf n 1 2270)).stR.nmi == ((Ras.mk 241 0 r.nearR.odd false true r.nearR.draw false).advR (spf n 1 2270)).stR.stR.nmi &&
                                                (((Ras.mk 241 0 r.nearR.odd false true r.nearR.draw false).advR (spf n 1 2270)).stR.draw == ((Ras.mk 241 0 r.nearR.odd false true r.nearR.draw false).advR (spf n 1 2270)).stR.stR.draw &&
                                                  (((Ras.mk 241 0 r.nearR.odd false true r.nearR.draw false).advR (spf n 1 2270)).stR.hold == ((Ras.mk 241 0 r.nearR.odd false true r.nearR.draw false).advR (spf n 1 2270)).stR.stR.hold && true))))))))
                                  (false = true)
                                  ((((Ras.mk 241 0 r.nearR.odd false true r.nearR.draw false).advR (spf n 1 2270)).stR.line == ((Ras.mk 241 0 r.nearR.odd false true r.nearR.draw false).advR (spf n 1 2270)).line &&
                                      (((Ras.mk 241 0 r.nearR.odd false true r.nearR.draw false).advR (spf n 1 2270)).stR.dot == ((Ras.mk 241 0 r.nearR.odd false true r.nearR.draw false).advR (spf n 1 2270)).dot &&
                                        (((Ras.mk 241 0 r.nearR.odd false true r.nearR.draw false).advR (spf n 1 2270)).stR.odd == ((Ras.mk 241 0 r.nearR.odd false true r.nearR.draw false).advR (spf n 1 2270)).odd &&
                                          (((Ras.mk 241 0 r.nearR.odd false true r.nearR.draw false).advR (spf n 1 2270)).stR.vbl == false &&
                                            (((Ras.mk 241 0 r.nearR.odd false true r.nearR.draw false).advR (spf n 1 2270)).stR.nmi == ((Ras.mk 241 0 r.nearR.odd false true r.nearR.draw false).advR (spf n 1 2270)).nmi &&
                                              (((Ras.mk 241 0 r.nearR.odd false true r.nearR.draw false).advR (spf n 1 2270)).stR.draw == ((Ras.mk 241 0 r.nearR.odd false true r.nearR.draw false).advR (spf n 1 2270)).draw &&
                                                (((Ras.mk 241 0 r.nearR.odd false true r.nearR.draw false).advR (spf n 1 2270)).stR.hold == ((Ras.mk 241 0 r.nearR.odd false true r.nearR.draw false).advR (spf n 1 2270)).hold && true))))))) =
                                    true))))))
          (br ((Ras.mk 241 0 r.nearR.odd false true r.nearR.draw false).stV != 0 || ((Ras.mk 241 0 r.nearR.odd false true r.nearR.draw false).stR.advR (spf n 0 29700)).vbl || false) (false = true)
            (True ∧
              br ((Ras.mk 241 0 r.nearR.odd false true r.nearR.draw false).stR.nextN != 29780 && (Ras.mk 241 0 r.nearR.odd false true r.nearR.draw false).stR.nextN != 29781) (false = true)
                (Chk (spanOK n 1 2270) ∧
                  Chk (i64 (spf n 1 2270)) ∧
                    True ∧
                      br (!((Ras.mk 241 0 r.nearR.odd false true r.nearR.draw false).advR (spf n 1 2270)).up) (false = true)
                        (True ∧
                          True ∧
                            br (!(((Ras.mk 241 0 r.nearR.odd false true r.nearR.draw false).advR (spf n 1 2270)).stV != 128 || ((Ras.mk 241 0 r.nearR.odd false true r.nearR.draw false).advR (spf n 1 2270)).stR.stV != 0) && true)
                              (True ∧
                                br
                                  (((Ras.mk 241 0 r.nearR.odd false true r.nearR.draw false).advR (spf n 1 2270)).stV != 128 || ((Ras.mk 241 0 r.nearR.odd false true r.nearR.draw false).advR (spf n 1 2270)).stR.stV != 0 || ((Ras.mk 241 0 r.nearR.odd false true r.nearR.draw false).advR (spf n 1 2270)).stR.up ||
                                    !(((Ras.mk 241 0 r.nearR.odd false true r.nearR.draw false).advR (spf n 1 2270)).stR.line == ((Ras.mk 241 0 r.nearR.odd false true r.nearR.draw false).advR (spf n 1 2270)).stR.stR.line &&
                                        (((Ras.mk 241 0 r.nearR.odd false true r.nearR.draw false).advR (spf n 1 2270)).stR.dot == ((Ras.mk 241 0 r.nearR.odd false true r.nearR.draw false).advR (spf n 1 2270)).stR.stR.dot &&
                                          (((Ras.mk 241 0 r.nearR.odd false true r.nearR.draw false).advR (spf n 1 2270)).stR.odd == ((Ras.mk 241 0 r.nearR.odd false true r.nearR.draw false).advR (spf n 1 2270)).stR.stR.odd &&
                                            (((Ras.mk 241 0 r.nearR.odd false true r.nearR.draw false).advR (spf n 1 2270)).stR.vbl == ((Ras.mk 241 0 r.nearR.odd false true r.nearR.draw false).advR (spf n 1 2270)).stR.stR.vbl &&
                                              (((Ras.mk 241 0 r.nearR.odd false true r.nearR.draw false).advR (spf n 1 2270)).stR.nmi == ((Ras.mk 241 0 r.nearR.odd false true r.nearR.draw false).advR (spf n 1 2270)).stR.stR.nmi &&
                                                (((Ras.mk 241 0 r.nearR.odd false true r.nearR.draw false).advR (spf n 1 2270)).stR.draw == ((Ras.mk 241 0 r.nearR.odd false true r.nearR.draw false).advR (spf n 1 2270)).stR.stR.draw &&
                                                  (((Ras.mk 241 0 r.nearR.odd false true r.nearR.draw false).advR (spf n 1 2270)).stR.hold == ((Ras.mk 241 0 r.nearR.odd false true r.nearR.draw false).advR (spf n 1 2270)).stR.stR.hold && true))))))))
                                  (false = true)
                                  ((((Ras.mk 241 0 r.nearR.odd false true r.nearR.draw false).advR (spf n 1 2270)).stR.line == ((Ras.mk 241 0 r.nearR.odd false true r.nearR.draw false).advR (spf n 1 2270)).line &&
                                      (((Ras.mk 241 0 r.nearR.odd false true r.nearR.draw false).advR (spf n 1 2270)).stR.dot == ((Ras.mk 241 0 r.nearR.odd false true r.nearR.draw false).advR (spf n 1 2270)).dot &&
                                        (((Ras.mk 241 0 r.nearR.odd false true r.nearR.draw false).advR (spf n 1 2270)).stR.odd == ((Ras.mk 241 0 r.nearR.odd false true r.nearR.draw false).advR (spf n 1 2270)).odd &&
                                          (((Ras.mk 241 0 r.nearR.odd false true r.nearR.draw false).advR (spf n 1 2270)).stR.vbl == false &&
                                            (((Ras.mk 241 0 r.nearR.odd false true r.nearR.draw false).advR (spf n 1 2270)).stR.nmi == ((Ras.mk 241 0 r.nearR.odd false true r.nearR.draw false).advR (spf n 1 2270)).nmi &&
                                              (((Ras.mk 241 0 r.nearR.odd false true r.nearR.draw false).advR (spf n 1 2270)).stR.draw == ((Ras.mk 241 0 r.nearR.odd false true r.nearR.draw false).advR (spf n 1 2270)).draw &&
                                                (((Ras.mk 241 0 r.nearR.odd false true r.nearR.draw false).advR (spf n 1 2270)).stR.hold == ((Ras.mk 241 0 r.nearR.odd false true r.nearR.draw false).advR (spf n 1 2270)).hold && true))))))) =
                                    true))
                              (br
                                (((Ras.mk 241 0 r.nearR.odd false true r.nearR.draw false).advR (spf n 1 2270)).stV != 128 || ((Ras.mk 241 0 r.nearR.odd false true r.nearR.draw false).advR (spf n 1 2270)).stR.stV != 0 || false ||
                                  !(((Ras.mk 241 0 r.nearR.odd false true r.nearR.draw false).advR (spf n 1 2270)).stR.line == ((Ras.mk 241 0 r.nearR.odd false true r.nearR.draw false).advR (spf n 1 2270)).stR.stR.line &&
                                      (((Ras.mk 241 0 r.nearR.odd false true r.nearR.draw false).advR (spf n 1 2270)).stR.dot == ((Ras.mk 241 0 r.nearR.odd false true r.nearR.draw false).advR (spf n 1 2270)).stR.stR.dot &&
                                        (((Ras.mk 241 0 r.nearR.odd false true r.nearR.draw false).advR (spf n 1 2270)).stR.odd == ((Ras.mk 241 0 r.nearR.odd false true r.nearR.draw false).advR (spf n 1 2270)).stR.stR.odd &&
                                          (((Ras.mk 241 0 r.nearR.odd false true r.nearR.draw false).advR (spf n 1 2270)).stR.vbl == ((Ras.mk 241 0 r.nearR.odd false true r.nearR.draw false).advR (spf n 1 2270)).stR.stR.vbl &&
                                            (((Ras.mk 241 0 r.nearR.odd false true r.nearR.draw false).advR (spf n 1 2270)).stR.nmi == ((Ras.mk 241 0 r.nearR.odd false true r.nearR.draw false).advR (spf n 1 2270)).stR.stR.nmi &&
                                              (((Ras.mk 241 0 r.nearR.odd false true r.nearR.draw false).advR (spf n 1 2270)).stR.draw == ((Ras.mk 241 0 r.nearR.odd false true r.nearR.draw false).advR (spf n 1 2270)).stR.stR.draw &&
                                                (((Ras.mk 241 0 r.nearR.odd false true r.nearR.draw false).advR (spf n 1 2270)).stR.hold == ((Ras.mk 241 0 r.nearR.odd false true r.nearR.draw false).advR (spf n 1 2270)).stR.stR.hold && true))))))))
                                (false = true)
                                ((((Ras.mk 241 0 r.nearR.odd false true r.nearR.draw false).advR (spf n 1 2270)).stR.line == ((Ras.mk 241 0 r.nearR.odd false true r.nearR.draw false).advR (spf n 1 2270)).line &&
                                    (((Ras.mk 241 0 r.nearR.odd false true r.nearR.draw false).advR (spf n 1 2270)).stR.dot == ((Ras.mk 241 0 r.nearR.odd false true r.nearR.draw false).advR (spf n 1 2270)).dot &&
                                      (((Ras.mk 241 0 r.nearR.odd false true r.nearR.draw false).advR (spf n 1 2270)).stR.odd == ((Ras.mk 241 0 r.nearR.odd false true r.nearR.draw false).advR (spf n 1 2270)).odd &&
                                        (((Ras.mk 241 0 r.nearR.odd false true r.nearR.draw false).advR (spf n 1 2270)).stR.vbl == false &&
                                          (((Ras.mk 241 0 r.nearR.odd false true r.nearR.draw false).advR (spf n 1 2270)).stR.nmi == ((Ras.mk 241 0 r.nearR.odd false true r.nearR.draw false).advR (spf n 1 2270)).nmi &&
                                            (((Ras.mk 241 0 r.nearR.odd false true r.nearR.draw false).advR (spf n 1 2270)).stR.draw == ((Ras.mk 241 0 r.nearR.odd false true r.nearR.draw false).advR (spf n 1 2270)).draw &&
                                              (((Ras.mk 241 0 r.nearR.odd false true r.nearR.draw false).advR (spf n 1 2270)).stR.hold == ((Ras.mk 241 0 r.nearR.odd false true r.nearR.draw false).advR (spf n 1 2270)).hold && true))))))) =
                                  true))))))) := by kernel_rfl

end Go.Sx

namespace Go.Sx
open Go.Proofs
set_option linter.unusedVariables false
set_option linter.unusedSimpArgs false

theorem raceq_valid (o w h : Bool) : (Ras.mk 241 0 o false true w h).valid = true := by
  rw [valid_iff]; simp [Ras.pl]
theorem raceq_pl (o v n w h : Bool) : (Ras.mk 241 0 o v n w h).pl = 82181 := by simp [Ras.pl]

theorem race_st (o w : Bool) : (Ras.mk 241 0 o false true w false).stV = 0 ∧ (Ras.mk 241 0 o false true w false).stR = Ras.mk 241 0 o false true w true := by
  constructor
  · simp [Ras.stV]
  · unfold Ras.stR; rw [if_pos (raceq_valid o w false), raceq_pl]; simp

theorem race_nextD (o w : Bool) : 89342 ≤ (Ras.mk 241 0 o false true w true).nextD ∧ (Ras.mk 241 0 o false true w true).nextD ≤ 89343 := by
  unfold Ras.nextD
  rw [raceq_pl, if_neg (by simp), if_pos (.inr rfl)]
  unfold Ras.left
  rw [raceq_pl]
  split <;> omega

theorem race_clear (o w : Bool) (m : Int) (h0 : 0 ≤ m) (h1 : m ≤ 29700) : ((Ras.mk 241 0 o false true w true).advR m).vbl = false := by
  have hd := race_nextD o w
  have hv := raceq_valid o w true
  rw [(advR_eq hv m).1, flag_at hv (3 * m.toNat) (by omega), if_pos (by omega)]

theorem race_next (o w : Bool) : (Ras.mk 241 0 o false true w true).nextN = 29781 := by
  have hd := race_nextD o w
  unfold Ras.nextN
  rw [if_pos (raceq_valid o w true), if_pos rfl]
  omega

theorem race_later (o w : Bool) (m : Int) (h0 : 1 ≤ m) (h1 : m ≤ 2270) : ((Ras.mk 241 0 o false true w false).advR m).valid = true ∧ ((Ras.mk 241 0 o false true w false).advR m).vbl = true ∧ ((Ras.mk 241 0 o false true w false).advR m).nmi = true ∧
    ((Ras.mk 241 0 o false true w false).advR m).hold = false ∧ ((Ras.mk 241 0 o false true w false).advR m).pl ≠ 82181 := by
  have hv := raceq_valid o w false
  have hl : 7160 ≤ (Ras.mk 241 0 o false true w false).left := by
    unfold Ras.left; rw [raceq_pl]; split <;> omega
  obtain ⟨s1, _, _⟩ := its_skip hv (n := ((3 * m.toNat : Nat) : Int)) (by omega) (by omega)
  rw [Int.toNat_natCast] at s1
  refine ⟨advR_valid hv m, ?_⟩
  rw [(advR_eq hv m).1, s1]
  have p := raceq_pl o false true w false
  refine ⟨?_, rfl, ?_, ?_⟩
  · rw [jump_vbl, p, if_neg (by omega), if_pos (by omega)]; rfl
  · show (if (Ras.mk 241 0 o false true w false).pl < 82182 ∧ _ then false else _) = false
    rw [p, if_pos (by omega)]
  · rw [jump_pl, p]; omega

theorem race_read {b : Ras} (h : b.valid = true) (hv : b.vbl = true) (hn : b.nmi = true) (hh : b.hold = false) (hp : b.pl ≠ 82181) :
    b.up = true ∧ b.stV = 128 ∧ b.stR = Ras.mk b.line b.dot b.odd false b.nmi b.draw b.hold ∧ b.stR.stV = 0 ∧ b.stR.up = false ∧ b.stR.stR = b.stR := by
  have e : b.stR = Ras.mk b.line b.dot b.odd false b.nmi b.draw b.hold := by
    unfold Ras.stR; rw [if_pos h]; simp [hp]
  refine ⟨by simp [Ras.up, h, hv, hn], by simp [Ras.stV, h, hv], e, ?_, ?_, ?_⟩
  · rw [e]; simp [Ras.stV]
  · rw [e]; simp [Ras.up]
  · rw [e]; unfold Ras.stR
    split
    · have : (Ras.mk b.line b.dot b.odd false b.nmi b.draw b.hold).pl = b.pl := rfl
      rw [this]; simp [hp]
    · rfl

theorem up_off {r : Ras} (h : r.vbl = false) : r.up = false := by unfold Ras.up; rw [h]; simp

theorem w12 (svs : List SV) (h : IsL Try.prog 3 [23, 3] svs) : bodyK (E0 gA noLoop) (callN (E0 gA noLoop) 1) 12 Try.f12 svs [] (fun x _ => isTrue x) := by
  obtain ⟨a, b, rfl, h1, h2⟩ := isL2 h
  obtain ⟨r, rfl, hr⟩ := is_ras h1
  obtain ⟨n, rfl, hn⟩ := is_int und3 h2
  have hn := inK_i64 hn
  rw [t12]
  obtain ⟨s1, s2⟩ := race_st r.nearR.odd r.nearR.draw
  have n1 := i64_spf n 0 29700 (by omega) (by omega)
  have n2 := i64_spf n 1 2270 (by omega) (by omega)
  have c1 := race_clear r.nearR.odd r.nearR.draw _ n1.1 n1.2
  have c2 := race_next r.nearR.odd r.nearR.draw
  obtain ⟨l1, l2, l3, l4, l5⟩ := race_later r.nearR.odd r.nearR.draw _ n2.1 n2.2
  obtain ⟨k1, k2, k3, k4, k5, k6⟩ := race_read l1 l2 l3 l4 l5
  rw [s2, s1, c1, c2, up_off c1]
  generalize (Ras.mk 241 0 r.nearR.odd false true r.nearR.draw false).advR (spf n 1 2270) = y at *
  rw [k6, k1, k2, k4, k5]
  have x1 : spanOK n 0 29700 := ⟨hn, by omega, by omega, by omega⟩
  have x2 : spanOK n 1 2270 := ⟨hn, by omega, by omega, by omega⟩
  rw [k3]
  simp only [beq_self_eq_true, Bool.and_true, Bool.and_self, Bool.not_true, Bool.or_false]
  exact ⟨⟨hr⟩, trivial, ⟨x1⟩, ⟨by unfold i64; omega⟩, trivial, trivial, ⟨x2⟩, ⟨by unfold i64; omega⟩, trivial, trivial, trivial, trivial, by show br false _ _; exact trivial⟩
end Go.Sx
