/- SxR26: Lines, Race: trees. -/
import Derived.Test.YtmgaphghjhbhhaaSxR25
import Derived.Test.YtmgaphghjhbhhaaSxR18
namespace Go.Sx
open Go.Proofs
set_option linter.unusedVariables false
set_option linter.unusedSimpArgs false
def gA : List (Nat × Con) := (30, cNext) :: (31, cNext) :: g8

theorem t10 (r : Ras) : bodyK (E0 gA noLoop) (callN (E0 gA noLoop) 1) 10 Try.f10 [r.sv] [] (fun x _ => isTrue x) = (
  Chk r.fit ∧
  True ∧
    br (Ras.mk r.nearR.line r.nearR.dot r.nearR.odd r.nearR.vbl true r.nearR.draw r.nearR.hold).up
      (True ∧
        Chk (i64 (Ras.mk r.nearR.line r.nearR.dot r.nearR.odd r.nearR.vbl true r.nearR.draw r.nearR.hold).nextN) ∧
          True ∧
            Chk (i64 ((Ras.mk r.nearR.line r.nearR.dot r.nearR.odd r.nearR.vbl true r.nearR.draw r.nearR.hold).advR (Ras.mk r.nearR.line r.nearR.dot r.nearR.odd r.nearR.vbl true r.nearR.draw r.nearR.hold).nextN).nextN) ∧
              True ∧
                br
                  (!(((Ras.mk r.nearR.line r.nearR.dot r.nearR.odd r.nearR.vbl true r.nearR.draw r.nearR.hold).advR (Ras.mk r.nearR.line r.nearR.dot r.nearR.odd r.nearR.vbl true r.nearR.draw r.nearR.hold).nextN).advR
                          ((Ras.mk r.nearR.line r.nearR.dot r.nearR.odd r.nearR.vbl true r.nearR.draw r.nearR.hold).advR (Ras.mk r.nearR.line r.nearR.dot r.nearR.odd r.nearR.vbl true r.nearR.draw r.nearR.hold).nextN).nextN).up ||
                    !(((Ras.mk r.nearR.line r.nearR.dot r.nearR.odd r.nearR.vbl true r.nearR.draw r.nearR.hold).advR (Ras.mk r.nearR.line r.nearR.dot r.nearR.odd r.nearR.vbl true r.nearR.draw r.nearR.hold).nextN).advR
                          ((Ras.mk r.nearR.line r.nearR.dot r.nearR.odd r.nearR.vbl true r.nearR.draw r.nearR.hold).advR (Ras.mk r.nearR.line r.nearR.dot r.nearR.odd r.nearR.vbl true r.nearR.draw r.nearR.hold).nextN).nextN).vbl)
                  (false = true)
                  (True ∧
                    Chk
                        (i64
                          (((Ras.mk r.nearR.line r.nearR.dot r.nearR.odd r.nearR.vbl true r.nearR.draw r.nearR.hold).advR (Ras.mk r.nearR.line r.nearR.dot r.nearR.odd r.nearR.vbl true r.nearR.draw r.nearR.hold).nextN).advR
                              ((Ras.mk r.nearR.line r.nearR.dot r.nearR.odd r.nearR.vbl true r.nearR.draw r.nearR.hold).advR (Ras.mk r.nearR.line r.nearR.dot r.nearR.odd r.nearR.vbl true r.nearR.draw r.nearR.hold).nextN).nextN).nextN) ∧
                      True ∧
                        Chk
                            (i64
                              ((((Ras.mk r.nearR.line r.nearR.dot r.nearR.odd r.nearR.vbl true r.nearR.draw r.nearR.hold).advR (Ras.mk r.nearR.line r.nearR.dot r.nearR.odd r.nearR.vbl true r.nearR.draw r.nearR.hold).nextN).advR
                                      ((Ras.mk r.nearR.line r.nearR.dot r.nearR.odd r.nearR.vbl true r.nearR.draw r.nearR.hold).advR (Ras.mk r.nearR.line r.nearR.dot r.nearR.odd r.nearR.vbl true r.nearR.draw r.nearR.hold).nextN).nextN).advR
                                  (((Ras.mk r.nearR.line r.nearR.dot r.nearR.odd r.nearR.vbl true r.nearR.draw r.nearR.hold).advR (Ras.mk r.nearR.line r.nearR.dot r.nearR.odd r.nearR.vbl true r.nearR.draw r.nearR.hold).nextN).advR
                                      ((Ras.mk r.nearR.line r.nearR.dot r.nearR.odd r.nearR.vbl true r.nearR.draw r.nearR.hold).advR (Ras.mk r.nearR.line r.nearR.dot r.nearR.odd r.nearR.vbl true r.nearR.draw r.nearR.hold).nextN).nextN).nextN).nextN) ∧
                          br
                            (((((Ras.mk r.nearR.line r.nearR.dot r.nearR.odd r.nearR.vbl true r.nearR.draw r.nearR.hold).advR (Ras.mk r.nearR.line r.nearR.dot r.nearR.odd r.nearR.vbl true r.nearR.draw r.nearR.hold).nextN).advR
                                        ((Ras.mk r.nearR.line r.nearR.dot r.nearR.odd r.nearR.vbl true r.nearR.draw r.nearR.hold).advR (Ras.mk r.nearR.line r.nearR.dot r.nearR.odd r.nearR.vbl true r.nearR.draw r.nearR.hold).nextN).nextN).nextN ==
                                    2273 ||
                                  (((Ras.mk r.nearR.line r.nearR.dot r.nearR.odd r.nearR.vbl true r.nearR.draw r.nearR.hold).advR (Ras.mk r.nearR.line r.nearR.dot r.nearR.odd r.nearR.vbl true r.nearR.draw r.nearR.hold).nextN).advR
                                        ((Ras.mk r.nearR.line r.nearR.dot r.nearR.odd r.nearR.vbl true r.nearR.draw r.nearR.hold).advR (Ras.mk r.nearR.line r.nearR.dot r.nearR.odd r.nearR.vbl true r.nearR.draw r.nearR.hold).nextN).nextN).nextN ==
                                    2274) &&
                                (IntKind.i64.wrap
                                      ((((Ras.mk r.nearR.line r.nearR.dot r.nearR.odd r.nearR.vbl true r.nearR.draw r.nearR.hold).advR (Ras.mk r.nearR.line r.nearR.dot r.nearR.odd r.nearR.vbl true r.nearR.draw r.nearR.hold).nextN).advR
                                            ((Ras.mk r.nearR.line r.nearR.dot r.nearR.odd r.nearR.vbl true r.nearR.draw r.nearR.hold).advR (Ras.mk r.nearR.line r.nearR.dot r.nearR.odd r.nearR.vbl true r.nearR.draw r.nearR.hold).nextN).nextN).nextN +
                                        ((((Ras.mk r.nearR.line r.nearR.dot r.nearR.odd r.nearR.vbl true r.nearR.draw r.nearR.hold).advR (Ras.mk r.nearR.line r.nearR.dot r.nearR.odd r.nearR.vbl true r.nearR.draw r.nearR.hold).nextN).advR
                                                ((Ras.mk r.nearR.line r.nearR.dot r.nearR.odd r.nearR.vbl true r.nearR.draw r.nearR.hold).advR (Ras.mk r.nearR.line r.nearR.dot r.nearR.odd r.nearR.vbl true r.nearR.draw r.nearR.hold).nextN).nextN).advR
                                            (((Ras.mk r.nearR.line r.nearR.dot r.nearR.odd r.nearR.vbl true r.nearR.draw r.nearR.hold).advR (Ras.mk r.nearR.line r.nearR.dot r.nearR.odd r.nearR.vbl true r.nearR.draw r.nearR.hold).nextN).advR
                                                ((Ras.mk r.nearR.line r.nearR.dot r.nearR.odd r.nearR.vbl true r.nearR.draw r.nearR.hold).advR (Ras.mk r.nearR.line r.nearR.dot r.nearR.odd r.nearR.vbl true r.nearR.draw r.nearR.hold).nextN).nextN).nextN).nextN) ==
                                    29780 ||
                                  IntKind.i64.wrap
                                      ((((Ras.mk r.nearR.line r.nearR.dot r.nearR.odd r.nearR.vbl true r.nearR.draw r.nearR.hold).advR (Ras.mk r.nearR.line r.nearR.dot r.nearR.odd r.nearR.vbl true r.nearR.draw r.nearR.hold).nextN).advR
                                            ((Ras.mk r.nearR.line r.nearR.dot r.nearR.odd r.nearR.vbl true r.nearR.draw r.nearR.hold).advR (Ras.mk r.nearR.line r.nearR.dot r.nearR.odd r.nearR.vbl true r.nearR.draw r.nearR.hold).nextN).nextN).nextN +
                                        ((((Ras.mk r.nearR.line r.nearR.dot r.nearR.odd r.nearR.vbl true r.nearR.draw r.nearR.hold).advR (Ras.mk r.nearR.line r.nearR.dot r.nearR.odd r.nearR.vbl true r.nearR.draw r.nearR.hold).nextN).advR
                                                ((Ras.mk r.nearR.line r.nearR.dot r.nearR.odd r.nearR.vbl true r.nearR.draw r.nearR.hold).advR (Ras.mk r.nearR.line r.nearR.dot r.nearR.odd r.nearR.vbl true r.nearR.draw r.nearR.hold).nextN).nextN).advR
                                            (((Ras.mk r.nearR.line r.nearR.dot r.nearR.odd r.nearR.vbl true r.nearR.draw r.nearR.hold).advR (Ras.mk r.nearR.line r.nearR.dot r.nearR.odd r.nearR.vbl true r.nearR.draw r.nearR.hold).nextN).advR
                                                ((Ras.mk r.nearR.line r.nearR.dot r.nearR.odd r.nearR.vbl true r.nearR.draw r.nearR.hold).advR (Ras.mk r.nearR.line r.nearR.dot r.nearR.odd r.nearR.vbl true r.nearR.draw r.nearR.hold).nextN).nextN).nextN).nextN) ==
                                    29781) &&
                              true)
                            (True ∧
                              (((((Ras.mk r.nearR.line r.nearR.dot r.nearR.odd r.nearR.vbl true r.nearR.draw r.nearR.hold).advR (Ras.mk r.nearR.line r.nearR.dot r.nearR.odd r.nearR.vbl true r.nearR.draw r.nearR.hold).nextN).advR
                                            ((Ras.mk r.nearR.line r.nearR.dot r.nearR.odd r.nearR.vbl true r.nearR.draw r.nearR.hold).advR (Ras.mk r.nearR.line r.nearR.dot r.nearR.odd r.nearR.vbl true r.nearR.draw r.nearR.hold).nextN).nextN).nextN ==
                                        2273 ||
                                      (((Ras.mk r.nearR.line r.nearR.dot r.nearR.odd r.nearR.vbl true r.nearR.draw r.nearR.hold).advR (Ras.mk r.nearR.line r.nearR.dot r.nearR.odd r.nearR.vbl true r.nearR.draw r.nearR.hold).nextN).advR
                                            ((Ras.mk r.nearR.line r.nearR.dot r.nearR.odd r.nearR.vbl true r.nearR.draw r.nearR.hold).advR (Ras.mk r.nearR.line r.nearR.dot r.nearR.odd r.nearR.vbl true r.nearR.draw r.nearR.hold).nextN).nextN).nextN ==
                                        2274) &&
                                    (IntKind.i64.wrap
                                          ((((Ras.mk r.nearR.line r.nearR.dot r.nearR.odd r.nearR.vbl true r.nearR.draw r.nearR.hold).advR (Ras.mk r.nearR.line r.nearR.dot r.nearR.odd r.nearR.vbl true r.nearR.draw r.nearR.hold).nextN).advR
                                                ((Ras.mk r.nearR.line r.nearR.dot r.nearR.odd r.nearR.vbl true r.nearR.draw r.nearR.hold).advR (Ras.mk r.nearR.line r.nearR.dot r.nearR.odd r.nearR.vbl true r.nearR.draw r.nearR.hold).nextN).nextN).nextN +
                                            ((((Ras.mk r.nearR.line r.nearR.dot r.nearR.odd r.nearR.vbl true r.nearR.draw r.nearR.hold).advR (Ras.mk r.nearR.line r.nearR.dot r.nearR.odd r.nearR.vbl true r.nearR.draw r.nearR.hold).nextN).advR
                                                    ((Ras.mk r.nearR.line r.nearR.dot r.nearR.odd r.nearR.vbl true r.nearR.draw r.nearR.hold).advR (Ras.mk r.nearR.line r.nearR.dot r.nearR.odd r.nearR.vbl true r.nearR.draw r.nearR.hold).nextN).nextN).advR
                                                (((Ras.mk r.nearR.line r.nearR.dot r.nearR.odd r.nearR.vbl true r.nearR.draw r.nearR.hold).advR (Ras.mk r.nearR.line r.nearR.dot r.nearR.odd r.nearR.vbl true r.nearR.draw r.nearR.hold).nextN).advR
                                                    ((Ras.mk r.nearR.line r.nearR.dot r.nearR.odd r.nearR.vbl true r.nearR.draw r.nearR.hold).advR (Ras.mk r.nearR.line r.nearR.dot r.nearR.odd r.nearR.vbl true r.nearR.draw r.nearR.hold).nextN).nextN).nextN).nextN) ==
                                        29780 ||
                                      IntKind.i64.wrap
                                          ((((Ras.mk r.nearR.line r.nearR.dot r.nearR.odd r.nearR.vbl true r.nearR.draw r.nearR.hold).advR (Ras.mk r.nearR.line r.nearR.dot r.nearR.odd r.nearR.vbl true r.nearR.draw r.nearR.hold).nextN).advR
                                                ((Ras.mk r.nearR.line r.nearR.dot r.nearR.odd r.nearR.vbl true r.nearR.draw r.nearR.hold).advR (Ras.mk r.nearR.line r.nearR.dot r.nearR.odd r.nearR.vbl true r.nearR.draw r.nearR.hold).nextN).nextN).nextN +
                                            ((((Ras.mk r.nearR.line r.nearR.dot r.nearR.odd r.nearR.vbl true r.nearR.draw r.nearR.hold).advR (Ras.mk r.nearR.line r.nearR.dot r.nearR.odd r.nearR.vbl true r.nearR.draw r.nearR.hold).nextN).advR
                                                    ((Ras.mk r.nearR.line r.nearR.dot r.nearR.odd r.nearR.vbl true r.nearR.draw r.nearR.hold).advR (Ras.mk r.nearR.line r.nearR.dot r.nearR.odd r.nearR.vbl true r.nearR.draw r.nearR.hold).nextN).nextN).advR
                                                (((Ras.mk r.nearR.line r.nearR.dot r.nearR.odd r.nearR.vbl true r.nearR.draw r.nearR.hold).advR (Ras.mk r.nearR.line r.nearR.dot r.nearR.odd r.nearR.vbl true r.nearR.draw r.nearR.hold).nextN).advR
                                                    ((Ras.mk r.nearR.line r.nearR.dot r.nearR.odd r.nearR.vbl true r.nearR.draw r.nearR.hold).advR (Ras.mk r.nearR.line r.nearR.dot r.nearR.odd r.nearR.vbl true r.nearR.draw r.nearR.hold).nextN).nextN).nextN).nextN) ==
                                        29781) &&
                                  (((((Ras.mk r.nearR.line r.nearR.dot r.nearR.odd r.nearR.vbl true r.nearR.draw r.nearR.hold).advR (Ras.mk r.nearR.line r.nearR.dot r.nearR.odd r.nearR.vbl true r.nearR.draw r.nearR.hold).nextN).advR
                                              ((Ras.mk r.nearR.line r.nearR.dot r.nearR.odd r.nearR.vbl true r.nearR.draw r.nearR.hold).advR (Ras.mk r.nearR.line r.nearR.dot r.nearR.odd r.nearR.vbl true r.nearR.draw r.nearR.hold).nextN).nextN).advR
                                          (((Ras.mk r.nearR.line r.nearR.dot r.nearR.odd r.nearR.vbl true r.nearR.draw r.nearR.hold).advR (Ras.mk r.nearR.line r.nearR.dot r.nearR.odd r.nearR.vbl true r.nearR.draw r.nearR.hold).nextN).advR
                                              ((Ras.mk r.nearR.line r.nearR.dot r.nearR.odd r.nearR.vbl true r.nearR.draw r.nearR.hold).advR (Ras.mk r.nearR.line r.nearR.dot r.nearR.odd r.nearR.vbl true r.nearR.draw r.nearR.hold).nextN).nextN).nextN).advR
                                      ((((Ras.mk r.nearR.line r.nearR.dot r.nearR.odd r.nearR.vbl true r.nearR.draw r.nearR.hold).advR (Ras.mk r.nearR.line r.nearR.dot r.nearR.odd r.nearR.vbl true r.nearR.draw r.nearR.hold).nextN).advR
                                              ((Ras.mk r.nearR.line r.nearR.dot r.nearR.odd r.nearR.vbl true r.nearR.draw r.nearR.hold).advR (Ras.mk r.nearR.line r.nearR.dot r.nearR.odd r.nearR.vbl true r.nearR.draw r.nearR.hold).nextN).nextN).advR
                                          (((Ras.mk r.nearR.line r.nearR.dot r.nearR.odd r.nearR.vbl true r.nearR.draw r.nearR.hold).advR (Ras.mk r.nearR.line r.nearR.dot r.nearR.odd r.nearR.vbl true r.nearR.draw r.nearR.hold).nextN).advR
                                              ((Ras.mk r.nearR.line r.nearR.dot r.nearR.odd r.nearR.vbl true r.nearR.draw r.nearR.hold).advR (Ras.mk r.nearR.line r.nearR.dot r.nearR.odd r.nearR.vbl true r.nearR.draw r.nearR.hold).nextN).nextN).nextN).nextN).up) =
                                true)
                            ((((((Ras.mk r.nearR.line r.nearR.dot r.nearR.odd r.nearR.vbl true r.nearR.draw r.nearR.hold).advR (Ras.mk r.nearR.line r.nearR.dot r.nearR.odd r.nearR.vbl true r.nearR.draw r.nearR.hold).nextN).advR
                                          ((Ras.mk r.nearR.line r.nearR.dot r.nearR.odd r.nearR.vbl true r.nearR.draw r.nearR.hold).advR (Ras.mk r.nearR.line r.nearR.dot r.nearR.odd r.nearR.vbl true r.nearR.draw r.nearR.hold).nextN).nextN).nextN ==
                                      2273 ||
                                    (((Ras.mk r.nearR.line r.nearR.dot r.nearR.odd r.nearR.vbl true r.nearR.draw r.nearR.hold).advR (Ras.mk r.nearR.line r.nearR.dot r.nearR.odd r.nearR.vbl true r.nearR.draw r.nearR.hold).nextN).advR
                                          ((Ras.mk r.nearR.line r.nearR.dot r.nearR.odd r.nearR.vbl true r.nearR.draw r.nearR.hold).advR (Ras.mk r.nearR.line r.nearR.dot r.nearR.odd r.nearR.vbl true r.nearR.draw r.nearR.hold).nextN).nextN).nextN ==
                                      2274) &&
                                  (IntKind.i64.wrap
                                        ((((Ras.mk r.nearR.line r.nearR.dot r.nearR.odd r.nearR.vbl true r.nearR.draw r.nearR.hold).advR (Ras.mk r.nearR.line r.nearR.dot r.nearR.odd r.nearR.vbl true r.nearR.draw r.nearR.hold).nextN).advR
                                              ((Ras.mk r.nearR.line r.nearR.dot r.nearR.odd r.nearR.vbl true r.nearR.draw r.nearR.hold).advR (Ras.mk r.nearR.line r.nearR.dot r.nearR.odd r.nearR.vbl true r.nearR.draw r.nearR.hold).nextN).nextN).nextN +
                                          ((((Ras.mk r.nearR.line r.nearR.dot r.nearR.odd r.nearR.vbl true r.nearR.draw r.nearR.hold).advR (Ras.mk r.nearR.line r.nearR.dot r.nearR.odd r.nearR.vbl true r.nearR.draw r.nearR.hold).nextN).advR
                                                  ((Ras.mk r.nearR.line r.nearR.dot r.nearR.odd r.nearR.vbl true r.nearR.draw r.nearR.hold).advR (Ras.mk r.nearR.line r.nearR.dot r.nearR.odd r.nearR.vbl true r.nearR.draw r.nearR.hold).nextN).nextN).advR
                                              (((Ras.mk r.nearR.line r.nearR.dot r.nearR.odd r.nearR.vbl true r.nearR.draw r.nearR.hold).advR (Ras.mk r.nearR.line r.nearR.dot r.nearR.odd r.nearR.vbl true r.nearR.draw r.nearR.hold).nextN).advR
                                                  ((Ras.mk r.nearR.line r.nearR.dot r.nearR.odd r.nearR.vbl true r.nearR.draw r.nearR.hold).advR (Ras.mk r.nearR.line r.nearR.dot r.nearR.odd r.nearR.vbl true r.nearR.draw r.nearR.hold).nextN).nextN).nextN).nextN) ==
                                      29780 ||
                                    IntKind.i64.wrap
                                        ((((Ras.mk r.nearR.line r.nearR.dot r.nearR.odd r.nearR.vbl true r.nearR.draw r.nearR.hold).advR (Ras.mk r.nearR.line r.nearR.dot r.nearR.odd r.nearR.vbl true r.nearR.draw r.nearR.hold).nextN).advR
                                              ((Ras.mk r.nearR.line r.nearR.dot r.nearR.odd r.nearR.vbl true r.nearR.draw r.nearR.hold).advR (Ras.mk r.nearR.line r.nearR.dot r.nearR.odd r.nearR.vbl true r.nearR.draw r.nearR.hold).nextN).nextN).nextN +
                                          ((((Ras.mk r.nearR.line r.nearR.dot r.nearR.odd r.nearR.vbl true r.nearR.draw r.nearR.hold).advR (Ras.mk r.nearR.line r.nearR.dot r.nearR.odd r.nearR.vbl true r.nearR.draw r.nearR.hold).nextN).advR
                                                  ((Ras.mk r.nearR.line r.nearR.dot r.nearR.odd r.nearR.vbl true r.nearR.draw r.nearR.hold).advR (Ras.mk r.nearR.line r.nearR.dot r.nearR.odd r.nearR.vbl true r.nearR.draw r.nearR.hold).nextN).nextN).advR
                                              (((Ras.mk r.nearR.line r.nearR.dot r.nearR.odd r.nearR.vbl true r.nearR.draw r.nearR.hold).advR (Ras.mk r.nearR.line r.nearR.dot r.nearR.odd r.nearR.vbl true r.nearR.draw r.nearR.hold).nextN).advR
                                                  ((Ras.mk r.nearR.line r.nearR.dot r.nearR.odd r.nearR.vbl true r.nearR.draw r.nearR.hold).advR (Ras.mk r.nearR.line r.nearR.dot r.nearR.odd r.nearR.vbl true r.nearR.draw r.nearR.hold).nextN).nextN).nextN).nextN) ==
                                      29781) &&
                                false) =
                              true)))
      (True ∧
        Chk (i64 (Ras.mk r.nearR.line r.nearR.dot r.nearR.odd r.nearR.vbl true r.nearR.draw r.nearR.hold).nextN) ∧
          True ∧
            br
              (!((Ras.mk r.nearR.line r.nearR.dot r.nearR.odd r.nearR.vbl true r.nearR.draw r.nearR.hold).advR (Ras.mk r.nearR.line r.nearR.dot r.nearR.odd r.nearR.vbl true r.nearR.draw r.nearR.hold).nextN).up ||
                !((Ras.mk r.nearR.line r.nearR.dot r.nearR.odd r.nearR.vbl true r.nearR.draw r.nearR.hold).advR (Ras.mk r.nearR.line r.nearR.dot r.nearR.odd r.nearR.vbl true r.nearR.draw r.nearR.hold).nextN).vbl)
              (false = true)
              (True ∧
                Chk (i64 ((Ras.mk r.nearR.line r.nearR.dot r.nearR.odd r.nearR.vbl true r.nearR.draw r.nearR.hold).advR (Ras.mk r.nearR.line r.nearR.dot r.nearR.odd r.nearR.vbl true r.nearR.draw r.nearR.hold).nextN).nextN) ∧
                  True ∧
                    Chk
                        (i64
                          (((Ras.mk r.nearR.line r.nearR.dot r.nearR.odd r.nearR.vbl true r.nearR.draw r.nearR.hold).advR (Ras.mk r.nearR.line r.nearR.dot r.nearR.odd r.nearR.vbl true r.nearR.draw r.nearR.hold).nextN).advR
                              ((Ras.mk r.nearR.line r.nearR.dot r.nearR.odd r.nearR.vbl true r.nearR.draw r.nearR.hold).advR (Ras.mk r.nearR.line r.nearR.dot r.nearR.odd r.nearR.vbl true r.nearR.draw r.nearR.hold).nextN).nextN).nextN) ∧
                      br
                        ((((Ras.mk r.nearR.line r.nearR.dot r.nearR.odd r.nearR.vbl true r.nearR.draw r.nearR.hold).advR (Ras.mk r.nearR.line r.nearR.dot r.nearR.odd r.nearR.vbl true r.nearR.draw r.nearR.hold).nextN).nextN == 2273 ||
                              ((Ras.mk r.nearR.line r.nearR.dot r.nearR.odd r.nearR.vbl true r.nearR.draw r.nearR.hold).advR (Ras.mk r.nearR.line r.nearR.dot r.nearR.odd r.nearR.vbl true r.nearR.draw r.nearR.hold).nextN).nextN == 2274) &&
                            (IntKind.i64.wrap
                                  (((Ras.mk r.nearR.line r.nearR.dot r.nearR.odd r.nearR.vbl true r.nearR.draw r.nearR.hold).advR (Ras.mk r.nearR.line r.nearR.dot r.nearR.odd r.nearR.vbl true r.nearR.draw r.nearR.hold).nextN).nextN +
                                    (((Ras.mk r.nearR.line r.nearR.dot r.nearR.odd r.nearR.vbl true r.nearR.draw r.nearR.hold).advR (Ras.mk r.nearR.line r.nearR.dot r.nearR.odd r.nearR.vbl true r.nearR.draw r.nearR.hold).nextN).advR
                                        ((Ras.mk r.nearR.line r.nearR.dot r.nearR.odd r.nearR.vbl true r.nearR.draw r.nearR.hold).advR (Ras.mk r.nearR.line r.nearR.dot r.nearR.odd r.nearR.vbl true r.nearR.draw r.nearR.hold).nextN).nextN).nextN) ==
                                29780 ||
                              IntKind.i64.wrap
                                  (((Ras.mk r.nearR.line r.nearR.dot r.nearR.odd r.nearR.vbl true r.nearR.draw r.nearR.hold).advR (Ras.mk r.nearR.line r.nearR.dot r.nearR.odd r.nearR.vbl true r.nearR.draw r.nearR.hold).nextN).nextN +
                                    (((Ras.mk r.nearR.line r.nearR.dot r.nearR.odd r.nearR.vbl true r.nearR.draw r.nearR.hold).advR (Ras.mk r.nearR.line r.nearR.dot r.nearR.odd r.nearR.vbl true r.nearR.draw r.nearR.hold).nextN).advR
                                        ((Ras.mk r.nearR.line r.nearR.dot r.nearR.odd r.nearR.vbl true r.nearR.draw r.nearR.hold).advR (Ras.mk r.nearR.line r.nearR.dot r.nearR.odd r.nearR.vbl true r.nearR.draw r.nearR.hold).nextN).nextN).nextN) ==
                                29781) &&
                          true)
                        (True ∧
                          ((((Ras.mk r.nearR.line r.nearR.dot r.nearR.odd r.nearR.vbl true r.nearR.draw r.nearR.hold).advR (Ras.mk r.nearR.line r.nearR.dot r.nearR.odd r.nearR.vbl true r.nearR.draw r.nearR.hold).nextN).nextN == 2273 ||
                                  ((Ras.mk r.nearR.line r.nearR.dot r.nearR.odd r.nearR.vbl true r.nearR.draw r.nearR.hold).advR (Ras.mk r.nearR.line r.nearR.dot r.nearR.odd r.nearR.vbl true r.nearR.draw r.nearR.hold).nextN).nextN == 2274) &&
                                (IntKind.i64.wrap
                                      (((Ras.mk r.nearR.line r.nearR.dot r.nearR.odd r.nearR.vbl true r.nearR.draw r.nearR.hold).advR (Ras.mk r.nearR.line r.nearR.dot r.nearR.odd r.nearR.vbl true r.nearR.draw r.nearR.hold).nextN).nextN +
                                        (((Ras.mk r.nearR.line r.nearR.dot r.nearR.odd r.nearR.vbl true r.nearR.draw r.nearR.hold).advR (Ras.mk r.nearR.line r.nearR.dot r.nearR.odd r.nearR.vbl true r.nearR.draw r.nearR.hold).nextN).advR
                                            ((Ras.mk r.nearR.line r.nearR.dot r.nearR.odd r.nearR.vbl true r.nearR.draw r.nearR.hold).advR (Ras.mk r.nearR.line r.nearR.dot r.nearR.odd r.nearR.vbl true r.nearR.draw r.nearR.hold).nextN).nextN).nextN) ==
                                    29780 ||
                                  IntKind.i64.wrap
                                      (((Ras.mk r.nearR.line r.nearR.dot r.nearR.odd r.nearR.vbl true r.nearR.draw r.nearR.hold).advR (Ras.mk r.nearR.line r.nearR.dot r.nearR.odd r.nearR.vbl true r.nearR.draw r.nearR.hold).nextN).nextN +
                                        (((Ras.mk r.nearR.line r.nearR.dot r.nearR.odd r.nearR.vbl true r.nearR.draw r.nearR.hold).advR (Ras.mk r.nearR.line r.nearR.dot r.nearR.odd r.nearR.vbl true r.nearR.draw r.nearR.hold).nextN).advR
                                            ((Ras.mk r.nearR.line r.nearR.dot r.nearR.odd r.nearR.vbl true r.nearR.draw r.nearR.hold).advR (Ras.mk r.nearR.line r.nearR.dot r.nearR.odd r.nearR.vbl true r.nearR.draw r.nearR.hold).nextN).nextN).nextN) ==
                                    29781) &&
                              ((((Ras.mk r.nearR.line r.nearR.dot r.nearR.odd r.nearR.vbl true r.nearR.draw r.nearR.hold).advR (Ras.mk r.nearR.line r.nearR.dot r.nearR.odd r.nearR.vbl true r.nearR.draw r.nearR.hold).nextN).advR
                                      ((Ras.mk r.nearR.line r.nearR.dot r.nearR.odd r.nearR.vbl true r.nearR.draw r.nearR.hold).advR (Ras.mk r.nearR.line r.nearR.dot r.nearR.odd r.nearR.vbl true r.nearR.draw r.nearR.hold).nextN).nextN).advR
                                  (((Ras.mk r.nearR.line r.nearR.dot r.nearR.odd r.nearR.vbl true r.nearR.draw r.nearR.hold).advR (Ras.mk r.nearR.line r.nearR.dot r.nearR.odd r.nearR.vbl true r.nearR.draw r.nearR.hold).nextN).advR
                                      ((Ras.mk r.nearR.line r.nearR.dot r.nearR.odd r.nearR.vbl true r.nearR.draw r.nearR.hold).advR (Ras.mk r.nearR.line r.nearR.dot r.nearR.odd r.nearR.vbl true r.nearR.draw r.nearR.hold).nextN).nextN).nextN).up) =
                            true)
                        (((((Ras.mk r.nearR.line r.nearR.dot r.nearR.odd r.nearR.vbl true r.nearR.draw r.nearR.hold).advR (Ras.mk r.nearR.line r.nearR.dot r.nearR.odd r.nearR.vbl true r.nearR.draw r.nearR.hold).nextN).nextN == 2273 ||
                                ((Ras.mk r.nearR.line r.nearR.dot r.nearR.odd r.nearR.vbl true r.nearR.draw r.nearR.hold).advR (Ras.mk r.nearR.line r.nearR.dot r.nearR.odd r.nearR.vbl true r.nearR.draw r.nearR.hold).nextN).nextN == 2274) &&
                              (IntKind.i64.wrap
                                    (((Ras.mk r.nearR.line r.nearR.dot r.nearR.odd r.nearR.vbl true r.nearR.draw r.nearR.hold).advR (Ras.mk r.nearR.line r.nearR.dot r.nearR.odd r.nearR.vbl true r.nearR.draw r.nearR.hold).nextN).nextN +
                                      (((Ras.mk r.nearR.line r.nearR.dot r.nearR.odd r.nearR.vbl true r.nearR.draw r.nearR.hold).advR (Ras.mk r.nearR.line r.nearR.dot r.nearR.odd r.nearR.vbl true r.nearR.draw r.nearR.hold).nextN).advR
                                          ((Ras.mk r.nearR.line r.nearR.dot r.nearR.odd r.nearR.vbl true r.nearR.draw r.nearR.hold).advR (Ras.mk r.nearR.line r.nearR.dot r.nearR.odd r.nearR.vbl true r.nearR.draw r.nearR.hold).nextN).nextN).nextN) ==
                                  29780 ||
                                IntKind.i64.wrap
                                    (((Ras.mk r.nearR.line r.nearR.dot r.nearR.odd r.nearR.vbl true r.nearR.draw r.nearR.hold).advR (Ras.mk r.nearR.line r.nearR.dot r.nearR.odd r.nearR.vbl true r.nearR.draw r.nearR.hold).nextN).nextN +
                                      (((Ras.mk r.nearR.line r.nearR.dot r.nearR.odd r.nearR.vbl true r.nearR.draw r.nearR.hold).advR (Ras.mk r.nearR.line r.nearR.dot r.nearR.odd r.nearR.vbl true r.nearR.draw r.nearR.hold).nextN).advR
                                          ((Ras.mk r.nearR.line r.nearR.dot r.nearR.odd r.nearR.vbl true r.nearR.draw r.nearR.hold).advR (Ras.mk r.nearR.line r.nearR.dot r.nearR.odd r.nearR.vbl true r.nearR.draw r.nearR.hold).nextN).nextN).nextN) ==
                                  29781) &&
                            false) =
                          true)))) := by kernel_rfl
theorem t12 (r : Ras) (n : Int) : bodyK (E0 gA noLoop) (callN (E0 gA noLoop) 1) 12 Try.f12 [r.sv, .i .i64 n] [] (fun x _ => isTrue x) = (
  Chk r.fit ∧ True ∧ Chk (spanOK n 0 29700) ∧ Chk (i64 (spf n 0 29700)) ∧ False) := by kernel_rfl

end Go.Sx
