/- SxR18: laws over Advance: trees. -/
import Derived.Test.YtmgaphghjhbhhaaSxR17
import Derived.Test.YtmgaphghjhbhhaaSxR8
namespace Go.Sx
open Go.Proofs
set_option linter.unusedVariables false
set_option linter.unusedSimpArgs false
def g8 : List (Nat × Con) := (34, cAdv) :: (35, cAdv) :: g4

theorem t7 (r : Ras) (n : Int) : bodyK (E0 g8 noLoop) (callN (E0 g8 noLoop) 1) 7 Try.f7 [r.sv, .i .i64 n] [] (fun x _ => isTrue x) = (
  Chk (i64 n) ∧ Chk (i64 n) ∧ ((r.advR n).line == (r.advR n).line && ((r.advR n).dot == (r.advR n).dot && ((r.advR n).odd == (r.advR n).odd && ((r.advR n).vbl == (r.advR n).vbl && ((r.advR n).nmi == (r.advR n).nmi && ((r.advR n).draw == (r.advR n).draw && ((r.advR n).hold == (r.advR n).hold && true)))))) && IntKind.i64.wrap (r.advN n) == IntKind.i64.wrap (r.advN n)) = true) := by kernel_rfl
theorem t8 (r : Ras) : bodyK (E0 g8 noLoop) (callN (E0 g8 noLoop) 1) 8 Try.f8 [r.sv] [] (fun x _ => isTrue x) = (
  Chk r.fit ∧
  br (r.nearR.line == 261 && r.nearR.dot == 340)
    (Chk (i64 59561) ∧
      Chk (i64 89342) ∧
        br
          (IntKind.i64.wrap ((Ras.mk r.nearR.line r.nearR.dot false r.nearR.vbl r.nearR.nmi true r.nearR.hold).advN 59561) != 482 || IntKind.i64.wrap ((Ras.mk r.nearR.line r.nearR.dot false r.nearR.vbl r.nearR.nmi false r.nearR.hold).advN 89342) != 0 || ((Ras.mk r.nearR.line r.nearR.dot false r.nearR.vbl r.nearR.nmi true r.nearR.hold).advR 59561).line != r.nearR.line ||
                ((Ras.mk r.nearR.line r.nearR.dot false r.nearR.vbl r.nearR.nmi true r.nearR.hold).advR 59561).dot != r.nearR.dot ||
              !((Ras.mk r.nearR.line r.nearR.dot false r.nearR.vbl r.nearR.nmi true r.nearR.hold).advR 59561).odd == false ||
            !((Ras.mk r.nearR.line r.nearR.dot false r.nearR.vbl r.nearR.nmi true r.nearR.hold).advR 59561).draw)
          (false = true)
          (Chk (i64 59561) ∧
            (((Ras.mk r.nearR.line r.nearR.dot false r.nearR.vbl r.nearR.nmi false r.nearR.hold).advR 89342).line == r.nearR.line && ((Ras.mk r.nearR.line r.nearR.dot false r.nearR.vbl r.nearR.nmi false r.nearR.hold).advR 89342).dot == r.nearR.dot && !((Ras.mk r.nearR.line r.nearR.dot false r.nearR.vbl r.nearR.nmi false r.nearR.hold).advR 89342).odd == false &&
                (((Ras.mk r.nearR.line r.nearR.dot false r.nearR.vbl r.nearR.nmi false r.nearR.hold).advR 59561).line != r.nearR.line || ((Ras.mk r.nearR.line r.nearR.dot false r.nearR.vbl r.nearR.nmi false r.nearR.hold).advR 59561).dot != r.nearR.dot)) =
              true))
    (Chk (i64 59561) ∧
      Chk (i64 89342) ∧
        br
          (IntKind.i64.wrap ((Ras.mk r.nearR.line r.nearR.dot r.nearR.odd r.nearR.vbl r.nearR.nmi true r.nearR.hold).advN 59561) != 482 || IntKind.i64.wrap ((Ras.mk r.nearR.line r.nearR.dot r.nearR.odd r.nearR.vbl r.nearR.nmi false r.nearR.hold).advN 89342) != 0 || ((Ras.mk r.nearR.line r.nearR.dot r.nearR.odd r.nearR.vbl r.nearR.nmi true r.nearR.hold).advR 59561).line != r.nearR.line ||
                ((Ras.mk r.nearR.line r.nearR.dot r.nearR.odd r.nearR.vbl r.nearR.nmi true r.nearR.hold).advR 59561).dot != r.nearR.dot ||
              !((Ras.mk r.nearR.line r.nearR.dot r.nearR.odd r.nearR.vbl r.nearR.nmi true r.nearR.hold).advR 59561).odd == r.nearR.odd ||
            !((Ras.mk r.nearR.line r.nearR.dot r.nearR.odd r.nearR.vbl r.nearR.nmi true r.nearR.hold).advR 59561).draw)
          (false = true)
          (Chk (i64 59561) ∧
            (((Ras.mk r.nearR.line r.nearR.dot r.nearR.odd r.nearR.vbl r.nearR.nmi false r.nearR.hold).advR 89342).line == r.nearR.line && ((Ras.mk r.nearR.line r.nearR.dot r.nearR.odd r.nearR.vbl r.nearR.nmi false r.nearR.hold).advR 89342).dot == r.nearR.dot && !((Ras.mk r.nearR.line r.nearR.dot r.nearR.odd r.nearR.vbl r.nearR.nmi false r.nearR.hold).advR 89342).odd == r.nearR.odd &&
                (((Ras.mk r.nearR.line r.nearR.dot r.nearR.odd r.nearR.vbl r.nearR.nmi false r.nearR.hold).advR 59561).line != r.nearR.line || ((Ras.mk r.nearR.line r.nearR.dot r.nearR.odd r.nearR.vbl r.nearR.nmi false r.nearR.hold).advR 59561).dot != r.nearR.dot)) =
              true))) := by kernel_rfl
theorem t9 (r : Ras) (a b : Int) : bodyK (E0 g8 noLoop) (callN (E0 g8 noLoop) 1) 9 Try.f9 [r.sv, .i .i64 a, .i .i64 b] [] (fun x _ => isTrue x) = (
  Chk r.fit ∧
  Chk (spanOK a 0 2305843009213693952) ∧
    Chk (spanOK b 0 2305843009213693952) ∧
      Chk (i64 (spf a 0 2305843009213693952)) ∧
        Chk (i64 (spf b 0 2305843009213693952)) ∧
          Chk (i64 (IntKind.i64.wrap (spf a 0 2305843009213693952 + spf b 0 2305843009213693952))) ∧
            br
              (!(!(((r.nearR.advR (spf a 0 2305843009213693952)).advR (spf b 0 2305843009213693952)).line == (r.nearR.advR (IntKind.i64.wrap (spf a 0 2305843009213693952 + spf b 0 2305843009213693952))).line &&
                        (((r.nearR.advR (spf a 0 2305843009213693952)).advR (spf b 0 2305843009213693952)).dot == (r.nearR.advR (IntKind.i64.wrap (spf a 0 2305843009213693952 + spf b 0 2305843009213693952))).dot &&
                          (((r.nearR.advR (spf a 0 2305843009213693952)).advR (spf b 0 2305843009213693952)).odd == (r.nearR.advR (IntKind.i64.wrap (spf a 0 2305843009213693952 + spf b 0 2305843009213693952))).odd &&
                            (((r.nearR.advR (spf a 0 2305843009213693952)).advR (spf b 0 2305843009213693952)).vbl == (r.nearR.advR (IntKind.i64.wrap (spf a 0 2305843009213693952 + spf b 0 2305843009213693952))).vbl &&
                              (((r.nearR.advR (spf a 0 2305843009213693952)).advR (spf b 0 2305843009213693952)).nmi == (r.nearR.advR (IntKind.i64.wrap (spf a 0 2305843009213693952 + spf b 0 2305843009213693952))).nmi &&
                                (((r.nearR.advR (spf a 0 2305843009213693952)).advR (spf b 0 2305843009213693952)).draw == (r.nearR.advR (IntKind.i64.wrap (spf a 0 2305843009213693952 + spf b 0 2305843009213693952))).draw &&
                                  (((r.nearR.advR (spf a 0 2305843009213693952)).advR (spf b 0 2305843009213693952)).hold == (r.nearR.advR (IntKind.i64.wrap (spf a 0 2305843009213693952 + spf b 0 2305843009213693952))).hold && true))))))) ||
                    IntKind.i64.wrap (IntKind.i64.wrap (r.nearR.advN (spf a 0 2305843009213693952)) + IntKind.i64.wrap ((r.nearR.advR (spf a 0 2305843009213693952)).advN (spf b 0 2305843009213693952))) != IntKind.i64.wrap (r.nearR.advN (IntKind.i64.wrap (spf a 0 2305843009213693952 + spf b 0 2305843009213693952)))) &&
                true)
              (True ∧
                br
                  (!(((r.nearR.advR (spf a 0 2305843009213693952)).advR (spf b 0 2305843009213693952)).line == (r.nearR.advR (IntKind.i64.wrap (spf a 0 2305843009213693952 + spf b 0 2305843009213693952))).line &&
                          (((r.nearR.advR (spf a 0 2305843009213693952)).advR (spf b 0 2305843009213693952)).dot == (r.nearR.advR (IntKind.i64.wrap (spf a 0 2305843009213693952 + spf b 0 2305843009213693952))).dot &&
                            (((r.nearR.advR (spf a 0 2305843009213693952)).advR (spf b 0 2305843009213693952)).odd == (r.nearR.advR (IntKind.i64.wrap (spf a 0 2305843009213693952 + spf b 0 2305843009213693952))).odd &&
                              (((r.nearR.advR (spf a 0 2305843009213693952)).advR (spf b 0 2305843009213693952)).vbl == (r.nearR.advR (IntKind.i64.wrap (spf a 0 2305843009213693952 + spf b 0 2305843009213693952))).vbl &&
                                (((r.nearR.advR (spf a 0 2305843009213693952)).advR (spf b 0 2305843009213693952)).nmi == (r.nearR.advR (IntKind.i64.wrap (spf a 0 2305843009213693952 + spf b 0 2305843009213693952))).nmi &&
                                  (((r.nearR.advR (spf a 0 2305843009213693952)).advR (spf b 0 2305843009213693952)).draw == (r.nearR.advR (IntKind.i64.wrap (spf a 0 2305843009213693952 + spf b 0 2305843009213693952))).draw &&
                                    (((r.nearR.advR (spf a 0 2305843009213693952)).advR (spf b 0 2305843009213693952)).hold == (r.nearR.advR (IntKind.i64.wrap (spf a 0 2305843009213693952 + spf b 0 2305843009213693952))).hold && true))))))) ||
                      IntKind.i64.wrap (IntKind.i64.wrap (r.nearR.advN (spf a 0 2305843009213693952)) + IntKind.i64.wrap ((r.nearR.advR (spf a 0 2305843009213693952)).advN (spf b 0 2305843009213693952))) != IntKind.i64.wrap (r.nearR.advN (IntKind.i64.wrap (spf a 0 2305843009213693952 + spf b 0 2305843009213693952))) ||
                    !(r.nearR.advR (spf a 0 2305843009213693952)).valid)
                  (false = true)
                  (Chk (i64 1) ∧
                    True ∧
                      br
                        (!(((r.nearR.advR (spf a 0 2305843009213693952)).advR 1).line == (r.nearR.advR (spf a 0 2305843009213693952)).tickR.line &&
                                (((r.nearR.advR (spf a 0 2305843009213693952)).advR 1).dot == (r.nearR.advR (spf a 0 2305843009213693952)).tickR.dot &&
                                  (((r.nearR.advR (spf a 0 2305843009213693952)).advR 1).odd == (r.nearR.advR (spf a 0 2305843009213693952)).tickR.odd &&
                                    (((r.nearR.advR (spf a 0 2305843009213693952)).advR 1).vbl == (r.nearR.advR (spf a 0 2305843009213693952)).tickR.vbl &&
                                      (((r.nearR.advR (spf a 0 2305843009213693952)).advR 1).nmi == (r.nearR.advR (spf a 0 2305843009213693952)).tickR.nmi &&
                                        (((r.nearR.advR (spf a 0 2305843009213693952)).advR 1).draw == (r.nearR.advR (spf a 0 2305843009213693952)).tickR.draw && (((r.nearR.advR (spf a 0 2305843009213693952)).advR 1).hold == (r.nearR.advR (spf a 0 2305843009213693952)).tickR.hold && true))))))) ||
                            IntKind.i64.wrap ((r.nearR.advR (spf a 0 2305843009213693952)).advN 1) != (r.nearR.advR (spf a 0 2305843009213693952)).tickN ||
                          (r.nearR.advR (spf a 0 2305843009213693952)).tickR.line == (r.nearR.advR (spf a 0 2305843009213693952)).line && (r.nearR.advR (spf a 0 2305843009213693952)).tickR.dot == (r.nearR.advR (spf a 0 2305843009213693952)).dot)
                        (false = true)
                        (True ∧
                          True ∧
                            True ∧
                              br (r.nearR.advR (spf a 0 2305843009213693952)).dotC
                                (br (r.nearR.advR (spf a 0 2305843009213693952)).dotR.dotC
                                  (br (r.nearR.advR (spf a 0 2305843009213693952)).dotR.dotR.dotC
                                    (((r.nearR.advR (spf a 0 2305843009213693952)).dotR.dotR.dotR.line == (r.nearR.advR (spf a 0 2305843009213693952)).tickR.line &&
                                          ((r.nearR.advR (spf a 0 2305843009213693952)).dotR.dotR.dotR.dot == (r.nearR.advR (spf a 0 2305843009213693952)).tickR.dot &&
                                            ((r.nearR.advR (spf a 0 2305843009213693952)).dotR.dotR.dotR.odd == (r.nearR.advR (spf a 0 2305843009213693952)).tickR.odd &&
                                              ((r.nearR.advR (spf a 0 2305843009213693952)).dotR.dotR.dotR.vbl == (r.nearR.advR (spf a 0 2305843009213693952)).tickR.vbl &&
                                                ((r.nearR.advR (spf a 0 2305843009213693952)).dotR.dotR.dotR.nmi == (r.nearR.advR (spf a 0 2305843009213693952)).tickR.nmi &&
                                                  ((r.nearR.advR (spf a 0 2305843009213693952)).dotR.dotR.dotR.draw == (r.nearR.advR (spf a 0 2305843009213693952)).tickR.draw && ((r.nearR.advR (spf a 0 2305843009213693952)).dotR.dotR.dotR.hold == (r.nearR.advR (spf a 0 2305843009213693952)).tickR.hold && true)))))) &&
                                        IntKind.i64.wrap (IntKind.i64.wrap (IntKind.i64.wrap (0 + 1) + 1) + 1) == (r.nearR.advR (spf a 0 2305843009213693952)).tickN) =
                                      true)
                                    (((r.nearR.advR (spf a 0 2305843009213693952)).dotR.dotR.dotR.line == (r.nearR.advR (spf a 0 2305843009213693952)).tickR.line &&
                                          ((r.nearR.advR (spf a 0 2305843009213693952)).dotR.dotR.dotR.dot == (r.nearR.advR (spf a 0 2305843009213693952)).tickR.dot &&
                                            ((r.nearR.advR (spf a 0 2305843009213693952)).dotR.dotR.dotR.odd == (r.nearR.advR (spf a 0 2305843009213693952)).tickR.odd &&
                                              ((r.nearR.advR (spf a 0 2305843009213693952)).dotR.dotR.dotR.vbl == (r.nearR.advR (spf a 0 2305843009213693952)).tickR.vbl &&
                                                ((r.nearR.advR (spf a 0 2305843009213693952)).dotR.dotR.dotR.nmi == (r.nearR.advR (spf a 0 2305843009213693952)).tickR.nmi &&
                                                  ((r.nearR.advR (spf a 0 2305843009213693952)).dotR.dotR.dotR.draw == (r.nearR.advR (spf a 0 2305843009213693952)).tickR.draw && ((r.nearR.advR (spf a 0 2305843009213693952)).dotR.dotR.dotR.hold == (r.nearR.advR (spf a 0 2305843009213693952)).tickR.hold && true)))))) &&
                                        IntKind.i64.wrap (IntKind.i64.wrap (0 + 1) + 1) == (r.nearR.advR (spf a 0 2305843009213693952)).tickN) =
                                      true))
                                  (br (r.nearR.advR (spf a 0 2305843009213693952)).dotR.dotR.dotC
                                    (((r.nearR.advR (spf a 0 2305843009213693952)).dotR.dotR.dotR.line == (r.nearR.advR (spf a 0 2305843009213693952)).tickR.line &&
                                          ((r.nearR.advR (spf a 0 2305843009213693952)).dotR.dotR.dotR.dot == (r.nearR.advR (spf a 0 2305843009213693952)).tickR.dot &&
                                            ((r.nearR.advR (spf a 0 2305843009213693952)).dotR.dotR.dotR.odd == (r.nearR.advR (spf a 0 2305843009213693952)).tickR.odd &&
                                              ((r.nearR.advR (spf a 0 2305843009213693952)).dotR.dotR.dotR.vbl == (r.nearR.advR (spf a 0 2305843009213693952)).tickR.vbl &&
                                                ((r.nearR.advR (spf a 0 2305843009213693952)).dotR.dotR.dotR.nmi == (r.nearR.advR (spf a 0 2305843009213693952)).tickR.nmi &&
                                                  ((r.nearR.advR (spf a 0 2305843009213693952)).dotR.dotR.dotR.draw == (r.nearR.advR (spf a 0 2305843009213693952)).tickR.draw && ((r.nearR.advR (spf a 0 2305843009213693952)).dotR.dotR.dotR.hold == (r.nearR.advR (spf a 0 2305843009213693952)).tickR.hold && true)))))) &&
                                        IntKind.i64.wrap (IntKind.i64.wrap (0 + 1) + 1) == (r.nearR.advR (spf a 0 2305843009213693952)).tickN) =
                                      true)
                                    (((r.nearR.advR (spf a 0 2305843009213693952)).dotR.dotR.dotR.line == (r.nearR.advR (spf a 0 2305843009213693952)).tickR.line &&
                                          ((r.nearR.advR (spf a 0 2305843009213693952)).dotR.dotR.dotR.dot == (r.nearR.advR (spf a 0 2305843009213693952)).tickR.dot &&
                                            ((r.nearR.advR (spf a 0 2305843009213693952)).dotR.dotR.dotR.odd == (r.nearR.advR (spf a 0 2305843009213693952)).tickR.odd &&
                                              ((r.nearR.advR (spf a 0 2305843009213693952)).dotR.dotR.dotR.vbl == (r.nearR.advR (spf a 0 2305843009213693952)).tickR.vbl &&
                                                ((r.nearR.advR (spf a 0 2305843009213693952)).dotR.dotR.dotR.nmi == (r.nearR.advR (spf a 0 2305843009213693952)).tickR.nmi &&
                                                  ((r.nearR.advR (spf a 0 2305843009213693952)).dotR.dotR.dotR.draw == (r.nearR.advR (spf a 0 2305843009213693952)).tickR.draw && ((r.nearR.advR (spf a 0 2305843009213693952)).dotR.dotR.dotR.hold == (r.nearR.advR (spf a 0 2305843009213693952)).tickR.hold && true)))))) &&
                                        IntKind.i64.wrap (0 + 1) == (r.nearR.advR (spf a 0 2305843009213693952)).tickN) =
                                      true)))
                                (br (r.nearR.advR (spf a 0 2305843009213693952)).dotR.dotC
                                  (br (r.nearR.advR (spf a 0 2305843009213693952)).dotR.dotR.dotC
                                    (((r.nearR.advR (spf a 0 2305843009213693952)).dotR.dotR.dotR.line == (r.nearR.advR (spf a 0 2305843009213693952)).tickR.line &&
                                          ((r.nearR.advR (spf a 0 2305843009213693952)).dotR.dotR.dotR.dot == (r.nearR.advR (spf a 0 2305843009213693952)).tickR.dot &&
                                            ((r.nearR.advR (spf a 0 2305843009213693952)).dotR.dotR.dotR.odd == (r.nearR.advR (spf a 0 2305843009213693952)).tickR.odd &&
                                              ((r.nearR.advR (spf a 0 2305843009213693952)).dotR.dotR.dotR.vbl == (r.nearR.advR (spf a 0 2305843009213693952)).tickR.vbl &&
                                                ((r.nearR.advR (spf a 0 2305843009213693952)).dotR.dotR.dotR.nmi == (r.nearR.advR (spf a 0 2305843009213693952)).tickR.nmi &&
                                                  ((r.nearR.advR (spf a 0 2305843009213693952)).dotR.dotR.dotR.draw == (r.nearR.advR (spf a 0 2305843009213693952)).tickR.draw && ((r.nearR.advR (spf a 0 2305843009213693952)).dotR.dotR.dotR.hold == (r.nearR.advR (spf a 0 2305843009213693952)).tickR.hold && true)))))) &&
                                        IntKind.i64.wrap (IntKind.i64.wrap (0 + 1) + 1) == (r.nearR.advR (spf a 0 2305843009213693952)).tickN) =
                                      true)
                                    (((r.nearR.advR (spf a 0 2305843009213693952)).dotR.dotR.dotR.line == (r.nearR.advR (spf a 0 2305843009213693952)).tickR.line &&
                                          ((r.nearR.advR (spf a 0 2305843009213693952)).dotR.dotR.dotR.dot == (r.nearR.advR (spf a 0 2305843009213693952)).tickR.dot &&
                                            ((r.nearR.advR (spf a 0 2305843009213693952)).dotR.dotR.dotR.odd == (r.nearR.advR (spf a 0 2305843009213693952)).tickR.odd &&
                                              ((r.nearR.advR (spf a 0 2305843009213693952)).dotR.dotR.dotR.vbl == (r.nearR.advR (spf a 0 2305843009213693952)).tickR.vbl &&
                                                ((r.nearR.advR (spf a 0 2305843009213693952)).dotR.dotR.dotR.nmi == (r.nearR.advR (spf a 0 2305843009213693952)).tickR.nmi &&
                                                  ((r.nearR.advR (spf a 0 2305843009213693952)).dotR.dotR.dotR.draw == (r.nearR.advR (spf a 0 2305843009213693952)).tickR.draw && ((r.nearR.advR (spf a 0 2305843009213693952)).dotR.dotR.dotR.hold == (r.nearR.advR (spf a 0 2305843009213693952)).tickR.hold && true)))))) &&
                                        IntKind.i64.wrap (0 + 1) == (r.nearR.advR (spf a 0 2305843009213693952)).tickN) =
                                      true))
                                  (br (r.nearR.advR (spf a 0 2305843009213693952)).dotR.dotR.dotC
                                    (((r.nearR.advR (spf a 0 2305843009213693952)).dotR.dotR.dotR.line == (r.nearR.advR (spf a 0 2305843009213693952)).tickR.line &&
                                          ((r.nearR.advR (spf a 0 2305843009213693952)).dotR.dotR.dotR.dot == (r.nearR.advR (spf a 0 2305843009213693952)).tickR.dot &&
                                            ((r.nearR.advR (spf a 0 2305843009213693952)).dotR.dotR.dotR.odd == (r.nearR.advR (spf a 0 2305843009213693952)).tickR.odd &&
                                              ((r.nearR.advR (spf a 0 2305843009213693952)).dotR.dotR.dotR.vbl == (r.nearR.advR (spf a 0 2305843009213693952)).tickR.vbl &&
                                                ((r.nearR.advR (spf a 0 2305843009213693952)).dotR.dotR.dotR.nmi == (r.nearR.advR (spf a 0 2305843009213693952)).tickR.nmi &&
                                                  ((r.nearR.advR (spf a 0 2305843009213693952)).dotR.dotR.dotR.draw == (r.nearR.advR (spf a 0 2305843009213693952)).tickR.draw && ((r.nearR.advR (spf a 0 2305843009213693952)).dotR.dotR.dotR.hold == (r.nearR.advR (spf a 0 2305843009213693952)).tickR.hold && true)))))) &&
                                        IntKind.i64.wrap (0 + 1) == (r.nearR.advR (spf a 0 2305843009213693952)).tickN) =
                                      true)
                                    (((r.nearR.advR (spf a 0 2305843009213693952)).dotR.dotR.dotR.line == (r.nearR.advR (spf a 0 2305843009213693952)).tickR.line &&
                                          ((r.nearR.advR (spf a 0 2305843009213693952)).dotR.dotR.dotR.dot == (r.nearR.advR (spf a 0 2305843009213693952)).tickR.dot &&
                                            ((r.nearR.advR (spf a 0 2305843009213693952)).dotR.dotR.dotR.odd == (r.nearR.advR (spf a 0 2305843009213693952)).tickR.odd &&
                                              ((r.nearR.advR (spf a 0 2305843009213693952)).dotR.dotR.dotR.vbl == (r.nearR.advR (spf a 0 2305843009213693952)).tickR.vbl &&
                                                ((r.nearR.advR (spf a 0 2305843009213693952)).dotR.dotR.dotR.nmi == (r.nearR.advR (spf a 0 2305843009213693952)).tickR.nmi &&
                                                  ((r.nearR.advR (spf a 0 2305843009213693952)).dotR.dotR.dotR.draw == (r.nearR.advR (spf a 0 2305843009213693952)).tickR.draw && ((r.nearR.advR (spf a 0 2305843009213693952)).dotR.dotR.dotR.hold == (r.nearR.advR (spf a 0 2305843009213693952)).tickR.hold && true)))))) &&
                                        0 == (r.nearR.advR (spf a 0 2305843009213693952)).tickN) =
                                      true))))))
              (br
                (!(((r.nearR.advR (spf a 0 2305843009213693952)).advR (spf b 0 2305843009213693952)).line == (r.nearR.advR (IntKind.i64.wrap (spf a 0 2305843009213693952 + spf b 0 2305843009213693952))).line &&
                        (((r.nearR.advR (spf a 0 2305843009213693952)).advR (spf b 0 2305843009213693952)).dot == (r.nearR.advR (IntKind.i64.wrap (spf a 0 2305843009213693952 + spf b 0 2305843009213693952))).dot &&
                          (((r.nearR.advR (spf a 0 2305843009213693952)).advR (spf b 0 2305843009213693952)).odd == (r.nearR.advR (IntKind.i64.wrap (spf a 0 2305843009213693952 + spf b 0 2305843009213693952))).odd &&
                            (((r.nearR.advR (spf a 0 2305843009213693952)).advR (spf b 0 2305843009213693952)).vbl == (r.nearR.advR (IntKind.i64.wrap (spf a 0 2305843009213693952 + spf b 0 2305843009213693952))).vbl &&
                              (((r.nearR.advR (spf a 0 2305843009213693952)).advR (spf b 0 2305843009213693952)).nmi == (r.nearR.advR (IntKind.i64.wrap (spf a 0 2305843009213693952 + spf b 0 2305843009213693952))).nmi &&
                                (((r.nearR.advR (spf a 0 2305843009213693952)).advR (spf b 0 2305843009213693952)).draw == (r.nearR.advR (IntKind.i64.wrap (spf a 0 2305843009213693952 + spf b 0 2305843009213693952))).draw &&
                                  (((r.nearR.advR (spf a 0 2305843009213693952)).advR (spf b 0 2305843009213693952)).hold == (r.nearR.advR (IntKind.i64.wrap (spf a 0 2305843009213693952 + spf b 0 2305843009213693952))).hold && true))))))) ||
                    IntKind.i64.wrap (IntKind.i64.wrap (r.nearR.advN (spf a 0 2305843009213693952)) + IntKind.i64.wrap ((r.nearR.advR (spf a 0 2305843009213693952)).advN (spf b 0 2305843009213693952))) != IntKind.i64.wrap (r.nearR.advN (IntKind.i64.wrap (spf a 0 2305843009213693952 + spf b 0 2305843009213693952))) ||
                  !false)
                (false = true)
                (Chk (i64 1) ∧
                  True ∧
                    br
                      (!(((r.nearR.advR (spf a 0 2305843009213693952)).advR 1).line == (r.nearR.advR (spf a 0 2305843009213693952)).tickR.line &&
                              (((r.nearR.advR (spf a 0 2305843009213693952)).advR 1).dot == (r.nearR.advR (spf a 0 2305843009213693952)).tickR.dot &&
                                (((r.nearR.advR (spf a 0 2305843009213693952)).advR 1).odd == (r.nearR.advR (spf a 0 2305843009213693952)).tickR.odd &&
                                  (((r.nearR.advR (spf a 0 2305843009213693952)).advR 1).vbl == (r.nearR.advR (spf a 0 2305843009213693952)).tickR.vbl &&
                                    (((r.nearR.advR (spf a 0 2305843009213693952)).advR 1).nmi == (r.nearR.advR (spf a 0 2305843009213693952)).tickR.nmi &&
                                      (((r.nearR.advR (spf a 0 2305843009213693952)).advR 1).draw == (r.nearR.advR (spf a 0 2305843009213693952)).tickR.draw && (((r.nearR.advR (spf a 0 2305843009213693952)).advR 1).hold == (r.nearR.advR (spf a 0 2305843009213693952)).tickR.hold && true))))))) ||
                          IntKind.i64.wrap ((r.nearR.advR (spf a 0 2305843009213693952)).advN 1) != (r.nearR.advR (spf a 0 2305843009213693952)).tickN ||
                        (r.nearR.advR (spf a 0 2305843009213693952)).tickR.line == (r.nearR.advR (spf a 0 2305843009213693952)).line && (r.nearR.advR (spf a 0 2305843009213693952)).tickR.dot == (r.nearR.advR (spf a 0 2305843009213693952)).dot)
                      (false = true)
                      (True ∧
                        True ∧
                          True ∧
                            br (r.nearR.advR (spf a 0 2305843009213693952)).dotC
                              (br (r.nearR.advR (spf a 0 2305843009213693952)).dotR.dotC
                                (br (r.nearR.advR (spf a 0 2305843009213693952)).dotR.dotR.dotC
                                  (((r.nearR.advR (spf a 0 2305843009213693952)).dotR.dotR.dotR.line == (r.nearR.advR (spf a 0 2305843009213693952)).tickR.line &&
                                        ((r.nearR.advR (spf a 0 2305843009213693952)).dotR.dotR.dotR.dot == (r.nearR.advR (spf a 0 2305843009213693952)).tickR.dot &&
                                          ((r.nearR.advR (spf a 0 2305843009213693952)).dotR.dotR.dotR.odd == (r.nearR.advR (spf a 0 2305843009213693952)).tickR.odd &&
                                            ((r.nearR.advR (spf a 0 2305843009213693952)).dotR.dotR.dotR.vbl == (r.nearR.advR (spf a 0 2305843009213693952)).tickR.vbl &&
                                              ((r.nearR.advR (spf a 0 2305843009213693952)).dotR.dotR.dotR.nmi == (r.nearR.advR (spf a 0 2305843009213693952)).tickR.nmi &&
                                                ((r.nearR.advR (spf a 0 2305843009213693952)).dotR.dotR.dotR.draw == (r.nearR.advR (spf a 0 2305843009213693952)).tickR.draw && ((r.nearR.advR (spf a 0 2305843009213693952)).dotR.dotR.dotR.hold == (r.nearR.advR (spf a 0 2305843009213693952)).tickR.hold && true)))))) &&
                                      IntKind.i64.wrap (IntKind.i64.wrap (IntKind.i64.wrap (0 + 1) + 1) + 1) == (r.nearR.advR (spf a 0 2305843009213693952)).tickN) =
                                    true)
                                  (((r.nearR.advR (spf a 0 2305843009213693952)).dotR.dotR.dotR.line == (r.nearR.advR (spf a 0 2305843009213693952)).tickR.line &&
                                        ((r.nearR.advR (spf a 0 2305843009213693952)).dotR.dotR.dotR.dot == (r.nearR.advR (spf a 0 2305843009213693952)).tickR.dot &&
                                          ((r.nearR.advR (spf a 0 2305843009213693952)).dotR.dotR.dotR.odd == (r.nearR.advR (spf a 0 2305843009213693952)).tickR.odd &&
                                            ((r.nearR.advR (spf a 0 2305843009213693952)).dotR.dotR.dotR.vbl == (r.nearR.advR (spf a 0 2305843009213693952)).tickR.vbl &&
                                              ((r.nearR.advR (spf a 0 2305843009213693952)).dotR.dotR.dotR.nmi == (r.nearR.advR (spf a 0 2305843009213693952)).tickR.nmi &&
                                                ((r.nearR.advR (spf a 0 2305843009213693952)).dotR.dotR.dotR.draw == (r.nearR.advR (spf a 0 2305843009213693952)).tickR.draw && ((r.nearR.advR (spf a 0 2305843009213693952)).dotR.dotR.dotR.hold == (r.nearR.advR (spf a 0 2305843009213693952)).tickR.hold && true)))))) &&
                                      IntKind.i64.wrap (IntKind.i64.wrap (0 + 1) + 1) == (r.nearR.advR (spf a 0 2305843009213693952)).tickN) =
                                    true))
                                (br (r.nearR.advR (spf a 0 2305843009213693952)).dotR.dotR.dotC
                                  (((r.nearR.advR (spf a 0 2305843009213693952)).dotR.dotR.dotR.line == (r.nearR.advR (spf a 0 2305843009213693952)).tickR.line &&
                                        ((r.nearR.advR (spf a 0 2305843009213693952)).dotR.dotR.dotR.dot == (r.nearR.advR (spf a 0 2305843009213693952)).tickR.dot &&
                                          ((r.nearR.advR (spf a 0 2305843009213693952)).dotR.dotR.dotR.odd == (r.nearR.advR (spf a 0 2305843009213693952)).tickR.odd &&
                                            ((r.nearR.advR (spf a 0 2305843009213693952)).dotR.dotR.dotR.vbl == (r.nearR.advR (spf a 0 2305843009213693952)).tickR.vbl &&
                                              ((r.nearR.advR (spf a 0 2305843009213693952)).dotR.dotR.dotR.nmi == (r.nearR.advR (spf a 0 2305843009213693952)).tickR.nmi &&
                                                ((r.nearR.advR (spf a 0 2305843009213693952)).dotR.dotR.dotR.draw == (r.nearR.advR (spf a 0 2305843009213693952)).tickR.draw && ((r.nearR.advR (spf a 0 2305843009213693952)).dotR.dotR.dotR.hold == (r.nearR.advR (spf a 0 2305843009213693952)).tickR.hold && true)))))) &&
                                      IntKind.i64.wrap (IntKind.i64.wrap (0 + 1) + 1) == (r.nearR.advR (spf a 0 2305843009213693952)).tickN) =
                                    true)
                                  (((r.nearR.advR (spf a 0 2305843009213693952)).dotR.dotR.dotR.line == (r.nearR.advR (spf a 0 2305843009213693952)).tickR.line &&
                                        ((r.nearR.advR (spf a 0 2305843009213693952)).dotR.dotR.dotR.dot == (r.nearR.advR (spf a 0 2305843009213693952)).tickR.dot &&
                                          ((r.nearR.advR (spf a 0 2305843009213693952)).dotR.dotR.dotR.odd == (r.nearR.advR (spf a 0 2305843009213693952)).tickR.odd &&
                                            ((r.nearR.advR (spf a 0 2305843009213693952)).dotR.dotR.dotR.vbl == (r.nearR.advR (spf a 0 2305843009213693952)).tickR.vbl &&
                                              ((r.nearR.advR (spf a 0 2305843009213693952)).dotR.dotR.dotR.nmi == (r.nearR.advR (spf a 0 2305843009213693952)).tickR.nmi &&
                                                ((r.nearR.advR (spf a 0 2305843009213693952)).dotR.dotR.dotR.draw == (r.nearR.advR (spf a 0 2305843009213693952)).tickR.draw && ((r.nearR.advR (spf a 0 2305843009213693952)).dotR.dotR.dotR.hold == (r.nearR.advR (spf a 0 2305843009213693952)).tickR.hold && true)))))) &&
                                      IntKind.i64.wrap (0 + 1) == (r.nearR.advR (spf a 0 2305843009213693952)).tickN) =
                                    true)))
                              (br (r.nearR.advR (spf a 0 2305843009213693952)).dotR.dotC
                                (br (r.nearR.advR (spf a 0 2305843009213693952)).dotR.dotR.dotC
                                  (((r.nearR.advR (spf a 0 2305843009213693952)).dotR.dotR.dotR.line == (r.nearR.advR (spf a 0 2305843009213693952)).tickR.line &&
                                        ((r.nearR.advR (spf a 0 2305843009213693952)).dotR.dotR.dotR.dot == (r.nearR.advR (spf a 0 2305843009213693952)).tickR.dot &&
                                          ((r.nearR.advR (spf a 0 2305843009213693952)).dotR.dotR.dotR.odd == (r.nearR.advR (spf a 0 2305843009213693952)).tickR.odd &&
                                            ((r.nearR.advR (spf a 0 2305843009213693952)).dotR.dotR.dotR.vbl == (r.nearR.advR (spf a 0 2305843009213693952)).tickR.vbl &&
                                              ((r.nearR.advR (spf a 0 2305843009213693952)).dotR.dotR.dotR.nmi == (r.nearR.advR (spf a 0 2305843009213693952)).tickR.nmi &&
                                                ((r.nearR.advR (spf a 0 2305843009213693952)).dotR.dotR.dotR.draw == (r.nearR.advR (spf a 0 2305843009213693952)).tickR.draw && ((r.nearR.advR (spf a 0 2305843009213693952)).dotR.dotR.dotR.hold == (r.nearR.advR (spf a 0 2305843009213693952)).tickR.hold && true)))))) &&
                                      IntKind.i64.wrap (IntKind.i64.wrap (0 + 1) + 1) == (r.nearR.advR (spf a 0 2305843009213693952)).tickN) =
                                    true)
                                  (((r.nearR.advR (spf a 0 2305843009213693952)).dotR.dotR.dotR.line == (r.nearR.advR (spf a 0 2305843009213693952)).tickR.line &&
                                        ((r.nearR.advR (spf a 0 2305843009213693952)).dotR.dotR.dotR.dot == (r.nearR.advR (spf a 0 2305843009213693952)).tickR.dot &&
                                          ((r.nearR.advR (spf a 0 2305843009213693952)).dotR.dotR.dotR.odd == (r.nearR.advR (spf a 0 2305843009213693952)).tickR.odd &&
                                            ((r.nearR.advR (spf a 0 2305843009213693952)).dotR.dotR.dotR.vbl == (r.nearR.advR (spf a 0 2305843009213693952)).tickR.vbl &&
                                              ((r.nearR.advR (spf a 0 2305843009213693952)).dotR.dotR.dotR.nmi == (r.nearR.advR (spf a 0 2305843009213693952)).tickR.nmi &&
                                                ((r.nearR.advR (spf a 0 2305843009213693952)).dotR.dotR.dotR.draw == (r.nearR.advR (spf a 0 2305843009213693952)).tickR.draw && ((r.nearR.advR (spf a 0 2305843009213693952)).dotR.dotR.dotR.hold == (r.nearR.advR (spf a 0 2305843009213693952)).tickR.hold && true)))))) &&
                                      IntKind.i64.wrap (0 + 1) == (r.nearR.advR (spf a 0 2305843009213693952)).tickN) =
                                    true))
                                (br (r.nearR.advR (spf a 0 2305843009213693952)).dotR.dotR.dotC
                                  (((r.nearR.advR (spf a 0 2305843009213693952)).dotR.dotR.dotR.line == (r.nearR.advR (spf a 0 2305843009213693952)).tickR.line &&
                                        ((r.nearR.advR (spf a 0 2305843009213693952)).dotR.dotR.dotR.dot == (r.nearR.advR (spf a 0 2305843009213693952)).tickR.dot &&
                                          ((r.nearR.advR (spf a 0 2305843009213693952)).dotR.dotR.dotR.odd == (r.nearR.advR (spf a 0 2305843009213693952)).tickR.odd &&
                                            ((r.nearR.advR (spf a 0 2305843009213693952)).dotR.dotR.dotR.vbl == (r.nearR.advR (spf a 0 2305843009213693952)).tickR.vbl &&
                                              ((r.nearR.advR (spf a 0 2305843009213693952)).dotR.dotR.dotR.nmi == (r.nearR.advR (spf a 0 2305843009213693952)).tickR.nmi &&
                                                ((r.nearR.advR (spf a 0 2305843009213693952)).dotR.dotR.dotR.draw == (r.nearR.advR (spf a 0 2305843009213693952)).tickR.draw && ((r.nearR.advR (spf a 0 2305843009213693952)).dotR.dotR.dotR.hold == (r.nearR.advR (spf a 0 2305843009213693952)).tickR.hold && true)))))) &&
                                      IntKind.i64.wrap (0 + 1) == (r.nearR.advR (spf a 0 2305843009213693952)).tickN) =
                                    true)
                                  (((r.nearR.advR (spf a 0 2305843009213693952)).dotR.dotR.dotR.line == (r.nearR.advR (spf a 0 2305843009213693952)).tickR.line &&
                                        ((r.nearR.advR (spf a 0 2305843009213693952)).dotR.dotR.dotR.dot == (r.nearR.advR (spf a 0 2305843009213693952)).tickR.dot &&
                                          ((r.nearR.advR (spf a 0 2305843009213693952)).dotR.dotR.dotR.odd == (r.nearR.advR (spf a 0 2305843009213693952)).tickR.odd &&
                                            ((r.nearR.advR (spf a 0 2305843009213693952)).dotR.dotR.dotR.vbl == (r.nearR.advR (spf a 0 2305843009213693952)).tickR.vbl &&
                                              ((r.nearR.advR (spf a 0 2305843009213693952)).dotR.dotR.dotR.nmi == (r.nearR.advR (spf a 0 2305843009213693952)).tickR.nmi &&
                                                ((r.nearR.advR (spf a 0 2305843009213693952)).dotR.dotR.dotR.draw == (r.nearR.advR (spf a 0 2305843009213693952)).tickR.draw && ((r.nearR.advR (spf a 0 2305843009213693952)).dotR.dotR.dotR.hold == (r.nearR.advR (spf a 0 2305843009213693952)).tickR.hold && true)))))) &&
                                      0 == (r.nearR.advR (spf a 0 2305843009213693952)).tickN) =
                                    true))))))) := by kernel_rfl
theorem g8_ok : GamOK (E0 g8 noLoop) :=
  gam_ok rfl ⟨con34.of, con35.of, con15.of, con16.of, con21.of, con18.of, con22.of, con17.of, con29.of, con19.of, con20.of, con36.of, con25.of, con26.of, con23.of, con24.of, con27.of, con28.of, trivial⟩

theorem w7 (svs : List SV) (h : IsL Try.prog 3 [23, 3] svs) : bodyK (E0 g8 noLoop) (callN (E0 g8 noLoop) 1) 7 Try.f7 svs [] (fun x _ => isTrue x) := by
  obtain ⟨a, b, rfl, h1, h2⟩ := isL2 h
  obtain ⟨r, rfl, hr⟩ := is_ras h1
  obtain ⟨v, rfl, hv⟩ := is_int und3 h2
  have hv := inK_i64 hv
  rw [t7]
  refine ⟨⟨hv⟩, ⟨hv⟩, ?_⟩
  simp

end Go.Sx
