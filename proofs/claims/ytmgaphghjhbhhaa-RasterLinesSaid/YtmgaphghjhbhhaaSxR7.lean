/- SxR7: two laws of the raster: Toggled, Touched; and Dots. -/
import Derived.Test.YtmgaphghjhbhhaaSxR6
namespace Go.Sx
open Go.Proofs
set_option linter.unusedVariables false
set_option linter.unusedSimpArgs false

def g4 : List (Nat × Con) := [(15, cNear), (16, cCtrl), (21, cCtrl), (18, cMask), (22, cMask), (17, cLine), (29, cLine), (19, cStat), (20, cStat), (36, cSpan), (25, cTick), (26, cTick), (23, cDot), (24, cDot), (27, cV), (28, cV)]

theorem t3 (r : Ras) (v w : Int) : bodyK (E0 g4 noLoop) (callN (E0 g4 noLoop) 1) 3 Try.f3 [r.sv, .i .u8 v, .i .u8 w] [] (fun x _ => isTrue x) = (
  Chk r.fit ∧
  Chk (u8 (iandn IntKind.u8 v 128)) ∧
    Chk (u8 (ior IntKind.u8 v 128)) ∧
      True ∧
        br (!((Ras.mk 250 r.nearR.dot r.nearR.odd true r.nearR.nmi r.nearR.draw false).ctrl (iandn IntKind.u8 v 128)).up && true)
          (True ∧
            br (((Ras.mk 250 r.nearR.dot r.nearR.odd true r.nearR.nmi r.nearR.draw false).ctrl (iandn IntKind.u8 v 128)).up || !(((Ras.mk 250 r.nearR.dot r.nearR.odd true r.nearR.nmi r.nearR.draw false).ctrl (iandn IntKind.u8 v 128)).ctrl (ior IntKind.u8 v 128)).up) (false = true)
              (Chk (u8 (ior IntKind.u8 w 8)) ∧
                Chk (u8 (ior IntKind.u8 w 16)) ∧
                  Chk (u8 (iandn IntKind.u8 w 24)) ∧
                    br
                      (!((((Ras.mk 250 r.nearR.dot r.nearR.odd true r.nearR.nmi r.nearR.draw false).ctrl (iandn IntKind.u8 v 128)).ctrl (ior IntKind.u8 v 128)).mask (ior IntKind.u8 w 8)).draw || !(((((Ras.mk 250 r.nearR.dot r.nearR.odd true r.nearR.nmi r.nearR.draw false).ctrl (iandn IntKind.u8 v 128)).ctrl (ior IntKind.u8 v 128)).mask (ior IntKind.u8 w 8)).mask (ior IntKind.u8 w 16)).draw ||
                            ((((((Ras.mk 250 r.nearR.dot r.nearR.odd true r.nearR.nmi r.nearR.draw false).ctrl (iandn IntKind.u8 v 128)).ctrl (ior IntKind.u8 v 128)).mask (ior IntKind.u8 w 8)).mask (ior IntKind.u8 w 16)).mask (iandn IntKind.u8 w 24)).draw ||
                          !(((Ras.mk 250 r.nearR.dot r.nearR.odd true r.nearR.nmi r.nearR.draw false).ctrl (iandn IntKind.u8 v 128)).ctrl (ior IntKind.u8 v 128)).nmi ||
                        ((Ras.mk 250 r.nearR.dot r.nearR.odd true r.nearR.nmi r.nearR.draw false).ctrl (iandn IntKind.u8 v 128)).nmi)
                      (false = true)
                      ((((((((Ras.mk 250 r.nearR.dot r.nearR.odd true r.nearR.nmi r.nearR.draw false).ctrl (iandn IntKind.u8 v 128)).ctrl (ior IntKind.u8 v 128)).mask (ior IntKind.u8 w 8)).mask (ior IntKind.u8 w 16)).mask (iandn IntKind.u8 w 24)).line == 250 &&
                          (((((((Ras.mk 250 r.nearR.dot r.nearR.odd true r.nearR.nmi r.nearR.draw false).ctrl (iandn IntKind.u8 v 128)).ctrl (ior IntKind.u8 v 128)).mask (ior IntKind.u8 w 8)).mask (ior IntKind.u8 w 16)).mask (iandn IntKind.u8 w 24)).dot == r.nearR.dot &&
                            (((((((Ras.mk 250 r.nearR.dot r.nearR.odd true r.nearR.nmi r.nearR.draw false).ctrl (iandn IntKind.u8 v 128)).ctrl (ior IntKind.u8 v 128)).mask (ior IntKind.u8 w 8)).mask (ior IntKind.u8 w 16)).mask (iandn IntKind.u8 w 24)).odd == r.nearR.odd &&
                              (((((((Ras.mk 250 r.nearR.dot r.nearR.odd true r.nearR.nmi r.nearR.draw false).ctrl (iandn IntKind.u8 v 128)).ctrl (ior IntKind.u8 v 128)).mask (ior IntKind.u8 w 8)).mask (ior IntKind.u8 w 16)).mask (iandn IntKind.u8 w 24)).vbl == true &&
                                (r.nearR.nmi == r.nearR.nmi && (r.nearR.draw == r.nearR.draw && (((((((Ras.mk 250 r.nearR.dot r.nearR.odd true r.nearR.nmi r.nearR.draw false).ctrl (iandn IntKind.u8 v 128)).ctrl (ior IntKind.u8 v 128)).mask (ior IntKind.u8 w 8)).mask (ior IntKind.u8 w 16)).mask (iandn IntKind.u8 w 24)).hold == false && true))))))) =
                        true)))
          (br (((Ras.mk 250 r.nearR.dot r.nearR.odd true r.nearR.nmi r.nearR.draw false).ctrl (iandn IntKind.u8 v 128)).up || !false) (false = true)
            (Chk (u8 (ior IntKind.u8 w 8)) ∧
              Chk (u8 (ior IntKind.u8 w 16)) ∧
                Chk (u8 (iandn IntKind.u8 w 24)) ∧
                  br
                    (!((((Ras.mk 250 r.nearR.dot r.nearR.odd true r.nearR.nmi r.nearR.draw false).ctrl (iandn IntKind.u8 v 128)).ctrl (ior IntKind.u8 v 128)).mask (ior IntKind.u8 w 8)).draw || !(((((Ras.mk 250 r.nearR.dot r.nearR.odd true r.nearR.nmi r.nearR.draw false).ctrl (iandn IntKind.u8 v 128)).ctrl (ior IntKind.u8 v 128)).mask (ior IntKind.u8 w 8)).mask (ior IntKind.u8 w 16)).draw ||
                          ((((((Ras.mk 250 r.nearR.dot r.nearR.odd true r.nearR.nmi r.nearR.draw false).ctrl (iandn IntKind.u8 v 128)).ctrl (ior IntKind.u8 v 128)).mask (ior IntKind.u8 w 8)).mask (ior IntKind.u8 w 16)).mask (iandn IntKind.u8 w 24)).draw ||
                        !(((Ras.mk 250 r.nearR.dot r.nearR.odd true r.nearR.nmi r.nearR.draw false).ctrl (iandn IntKind.u8 v 128)).ctrl (ior IntKind.u8 v 128)).nmi ||
                      ((Ras.mk 250 r.nearR.dot r.nearR.odd true r.nearR.nmi r.nearR.draw false).ctrl (iandn IntKind.u8 v 128)).nmi)
                    (false = true)
                    ((((((((Ras.mk 250 r.nearR.dot r.nearR.odd true r.nearR.nmi r.nearR.draw false).ctrl (iandn IntKind.u8 v 128)).ctrl (ior IntKind.u8 v 128)).mask (ior IntKind.u8 w 8)).mask (ior IntKind.u8 w 16)).mask (iandn IntKind.u8 w 24)).line == 250 &&
                        (((((((Ras.mk 250 r.nearR.dot r.nearR.odd true r.nearR.nmi r.nearR.draw false).ctrl (iandn IntKind.u8 v 128)).ctrl (ior IntKind.u8 v 128)).mask (ior IntKind.u8 w 8)).mask (ior IntKind.u8 w 16)).mask (iandn IntKind.u8 w 24)).dot == r.nearR.dot &&
                          (((((((Ras.mk 250 r.nearR.dot r.nearR.odd true r.nearR.nmi r.nearR.draw false).ctrl (iandn IntKind.u8 v 128)).ctrl (ior IntKind.u8 v 128)).mask (ior IntKind.u8 w 8)).mask (ior IntKind.u8 w 16)).mask (iandn IntKind.u8 w 24)).odd == r.nearR.odd &&
                            (((((((Ras.mk 250 r.nearR.dot r.nearR.odd true r.nearR.nmi r.nearR.draw false).ctrl (iandn IntKind.u8 v 128)).ctrl (ior IntKind.u8 v 128)).mask (ior IntKind.u8 w 8)).mask (ior IntKind.u8 w 16)).mask (iandn IntKind.u8 w 24)).vbl == true &&
                              (r.nearR.nmi == r.nearR.nmi && (r.nearR.draw == r.nearR.draw && (((((((Ras.mk 250 r.nearR.dot r.nearR.odd true r.nearR.nmi r.nearR.draw false).ctrl (iandn IntKind.u8 v 128)).ctrl (ior IntKind.u8 v 128)).mask (ior IntKind.u8 w 8)).mask (ior IntKind.u8 w 16)).mask (iandn IntKind.u8 w 24)).hold == false && true))))))) =
                      true)))) := by kernel_rfl
theorem t4 (r : Ras) (v : Int) : bodyK (E0 g4 noLoop) (callN (E0 g4 noLoop) 1) 4 Try.f4 [r.sv, .i .u8 v] [] (fun x _ => isTrue x) = (
  True ∧
  True ∧
    Chk (u8 v) ∧
      Chk (u8 v) ∧
        Chk (u8 v) ∧
          Chk (u8 v) ∧
            (r.stV == r.stV && (r.stR.line == r.stR.line && (r.stR.dot == r.stR.dot && (r.stR.odd == r.stR.odd && (r.stR.vbl == r.stR.vbl && (r.stR.nmi == r.stR.nmi && (r.stR.draw == r.stR.draw && (r.stR.hold == r.stR.hold && true))))))) &&
                  ((r.ctrl v).line == (r.ctrl v).line && ((r.ctrl v).dot == (r.ctrl v).dot && ((r.ctrl v).odd == (r.ctrl v).odd && ((r.ctrl v).vbl == (r.ctrl v).vbl && ((r.ctrl v).nmi == (r.ctrl v).nmi && ((r.ctrl v).draw == (r.ctrl v).draw && ((r.ctrl v).hold == (r.ctrl v).hold && true))))))) &&
                ((r.mask v).line == (r.mask v).line && ((r.mask v).dot == (r.mask v).dot && ((r.mask v).odd == (r.mask v).odd && ((r.mask v).vbl == (r.mask v).vbl && ((r.mask v).nmi == (r.mask v).nmi && ((r.mask v).draw == (r.mask v).draw && ((r.mask v).hold == (r.mask v).hold && true)))))))) =
              true) := by kernel_rfl
theorem t5 (r : Ras) : bodyK (E0 g4 noLoop) (callN (E0 g4 noLoop) 1) 5 Try.f5 [r.sv] [] (fun x _ => isTrue x) = (
  True ∧
  True ∧
    True ∧
      True ∧
        True ∧
          True ∧
            (r.dotR.line == r.dotR.line && (r.dotR.dot == r.dotR.dot && (r.dotR.odd == r.dotR.odd && (r.dotR.vbl == r.dotR.vbl && (r.dotR.nmi == r.dotR.nmi && (r.dotR.draw == r.dotR.draw && (r.dotR.hold == r.dotR.hold && true)))))) && r.dotC == r.dotC &&
                    (r.tickR.line == r.tickR.line && (r.tickR.dot == r.tickR.dot && (r.tickR.odd == r.tickR.odd && (r.tickR.vbl == r.tickR.vbl && (r.tickR.nmi == r.tickR.nmi && (r.tickR.draw == r.tickR.draw && (r.tickR.hold == r.tickR.hold && true))))))) &&
                  r.tickN == r.tickN &&
                r.valid == r.valid) =
              true) := by kernel_rfl

end Go.Sx
