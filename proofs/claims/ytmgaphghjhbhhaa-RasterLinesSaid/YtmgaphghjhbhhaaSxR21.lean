/- SxR21: Next, After: trees. -/
import Derived.Test.YtmgaphghjhbhhaaSxR17
namespace Go.Sx
open Go.Proofs
set_option linter.unusedVariables false
set_option linter.unusedSimpArgs false

/-- Dots until the flag is another. -/
def Ras.nextD (r : Ras) : Int := if r.vbl = true then 89002 - r.pl else if 82181 < r.pl ∨ r.hold = true then r.left + 82182 else 82182 - r.pl
def never : Int := 4611686018427387904
def Ras.nextN (r : Ras) : Int := if r.valid = true then (if r.nmi = true then (r.nextD + 2) / 3 else never) else 0
def cNext : Con := .pure pre0 (onR fun r => .i .i64 r.nextN)
def g9 : List (Nat × Con) := [(27, cV), (28, cV), (41, cPlace), (47, cLen), (48, cStruck), (44, cT)]

theorem t30 (r : Ras) : bodyK (E0 g9 noLoop) (callN (E0 g9 noLoop) 3) 30 Try.f30 [r.sv] [] (fun x _ => onB (x.cl 0) (x = .i .i64 r.nextN)) = (
  True ∧
  br (!r.valid) (SV.i IntKind.i64 0 = SV.i IntKind.i64 r.nextN)
    (br (!r.nmi) (SV.i IntKind.i64 4611686018427387904 = SV.i IntKind.i64 r.nextN)
      (br r.vbl (Chk (r.valid = true) ∧ SV.i IntKind.i64 (IntKind.i64.wrap ((IntKind.i64.wrap (IntKind.i64.wrap (89002 - r.pl) + 2)).tdiv 3)) = SV.i IntKind.i64 r.nextN)
        (Chk (r.valid = true) ∧
          br (decide (82181 < r.pl) || r.hold)
            (True ∧
              br (decide (IntKind.i64.wrap (r.len - r.pl) ≤ 0)) (Chk ((Ras.mk 0 0 (!r.odd) r.vbl r.nmi r.draw false).valid = true) ∧ SV.i IntKind.i64 (IntKind.i64.wrap ((IntKind.i64.wrap (IntKind.i64.wrap (IntKind.i64.wrap (IntKind.i64.wrap (IntKind.i64.wrap (89342 - r.pl) + 82181) + 1) - (Ras.mk 0 0 (!r.odd) r.vbl r.nmi r.draw false).pl) + 2)).tdiv 3)) = SV.i IntKind.i64 r.nextN)
                (Chk ((Ras.mk 0 0 (!r.odd) r.vbl r.nmi r.draw false).valid = true) ∧ SV.i IntKind.i64 (IntKind.i64.wrap ((IntKind.i64.wrap (IntKind.i64.wrap (IntKind.i64.wrap (IntKind.i64.wrap (IntKind.i64.wrap (r.len - r.pl) + 82181) + 1) - (Ras.mk 0 0 (!r.odd) r.vbl r.nmi r.draw false).pl) + 2)).tdiv 3)) = SV.i IntKind.i64 r.nextN))
            (Chk (r.valid = true) ∧ SV.i IntKind.i64 (IntKind.i64.wrap ((IntKind.i64.wrap (IntKind.i64.wrap (IntKind.i64.wrap (IntKind.i64.wrap (0 + 82181) + 1) - r.pl) + 2)).tdiv 3)) = SV.i IntKind.i64 r.nextN))))) := by kernel_rfl

end Go.Sx
