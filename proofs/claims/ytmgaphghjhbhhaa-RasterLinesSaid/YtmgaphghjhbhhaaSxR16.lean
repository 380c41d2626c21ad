/- SxR16: the document's Advance: tree. -/
import Derived.Test.YtmgaphghjhbhhaaSxR15
namespace Go.Sx
open Go.Proofs
set_option linter.unusedVariables false
set_option linter.unusedSimpArgs false

theorem t35 (r : Ras) (n : Int) : bodyK (E0 g7 L35) (callN (E0 g7 L35) 1) 35 Try.f35 [r.sv, .i .i64 n] [] (fun x _ => onB (x.cl 0) (x = two (r.advR n).sv (.i .i64 (IntKind.wrap .i64 (r.advN n))))) = (
  True ∧
  br (!r.valid || decide (n < 1)) (two r.sv (SV.i IntKind.i64 0) = two (r.advR n).sv (SV.i IntKind.i64 (IntKind.i64.wrap (r.advN n))))
    (br r.draw
      (br (decide (IntKind.i64.wrap (2 * 59561) < n))
        (br r.draw
          (Chk (ok35 r (IntKind.i64.wrap (n - IntKind.i64.wrap (IntKind.i64.wrap ((IntKind.i64.wrap (n - 59561)).tdiv 59561) * 59561))) (IntKind.i64.wrap (IntKind.i64.wrap ((IntKind.i64.wrap (n - 59561)).tdiv 59561) * 482))) ∧
            two (Ras.its (3 * (IntKind.i64.wrap (n - IntKind.i64.wrap (IntKind.i64.wrap ((IntKind.i64.wrap (n - 59561)).tdiv 59561) * 59561))).toNat) r).sv
                (SV.i IntKind.i64 (IntKind.i64.wrap (IntKind.i64.wrap ((IntKind.i64.wrap (n - 59561)).tdiv 59561) * 482) + Ras.cks (3 * (IntKind.i64.wrap (n - IntKind.i64.wrap (IntKind.i64.wrap ((IntKind.i64.wrap (n - 59561)).tdiv 59561) * 59561))).toNat) r)) =
              two (r.advR n).sv (SV.i IntKind.i64 (IntKind.i64.wrap (r.advN n))))
          (Chk (ok35 r (IntKind.i64.wrap (n - IntKind.i64.wrap (IntKind.i64.wrap ((IntKind.i64.wrap (n - 59561)).tdiv 59561) * 59561))) 0) ∧
            two (Ras.its (3 * (IntKind.i64.wrap (n - IntKind.i64.wrap (IntKind.i64.wrap ((IntKind.i64.wrap (n - 59561)).tdiv 59561) * 59561))).toNat) r).sv (SV.i IntKind.i64 (0 + Ras.cks (3 * (IntKind.i64.wrap (n - IntKind.i64.wrap (IntKind.i64.wrap ((IntKind.i64.wrap (n - 59561)).tdiv 59561) * 59561))).toNat) r)) = two (r.advR n).sv (SV.i IntKind.i64 (IntKind.i64.wrap (r.advN n)))))
        (Chk (ok35 r n 0) ∧ two (Ras.its (3 * n.toNat) r).sv (SV.i IntKind.i64 (0 + Ras.cks (3 * n.toNat) r)) = two (r.advR n).sv (SV.i IntKind.i64 (IntKind.i64.wrap (r.advN n)))))
      (br (decide (IntKind.i64.wrap (2 * 178684) < n))
        (br r.draw
          (Chk (ok35 r (IntKind.i64.wrap (n - IntKind.i64.wrap (IntKind.i64.wrap ((IntKind.i64.wrap (n - 178684)).tdiv 178684) * 178684))) (IntKind.i64.wrap (IntKind.i64.wrap ((IntKind.i64.wrap (n - 178684)).tdiv 178684) * 482))) ∧
            two (Ras.its (3 * (IntKind.i64.wrap (n - IntKind.i64.wrap (IntKind.i64.wrap ((IntKind.i64.wrap (n - 178684)).tdiv 178684) * 178684))).toNat) r).sv
                (SV.i IntKind.i64 (IntKind.i64.wrap (IntKind.i64.wrap ((IntKind.i64.wrap (n - 178684)).tdiv 178684) * 482) + Ras.cks (3 * (IntKind.i64.wrap (n - IntKind.i64.wrap (IntKind.i64.wrap ((IntKind.i64.wrap (n - 178684)).tdiv 178684) * 178684))).toNat) r)) =
              two (r.advR n).sv (SV.i IntKind.i64 (IntKind.i64.wrap (r.advN n))))
          (Chk (ok35 r (IntKind.i64.wrap (n - IntKind.i64.wrap (IntKind.i64.wrap ((IntKind.i64.wrap (n - 178684)).tdiv 178684) * 178684))) 0) ∧
            two (Ras.its (3 * (IntKind.i64.wrap (n - IntKind.i64.wrap (IntKind.i64.wrap ((IntKind.i64.wrap (n - 178684)).tdiv 178684) * 178684))).toNat) r).sv (SV.i IntKind.i64 (0 + Ras.cks (3 * (IntKind.i64.wrap (n - IntKind.i64.wrap (IntKind.i64.wrap ((IntKind.i64.wrap (n - 178684)).tdiv 178684) * 178684))).toNat) r)) = two (r.advR n).sv (SV.i IntKind.i64 (IntKind.i64.wrap (r.advN n)))))
        (Chk (ok35 r n 0) ∧ two (Ras.its (3 * n.toNat) r).sv (SV.i IntKind.i64 (0 + Ras.cks (3 * n.toNat) r)) = two (r.advR n).sv (SV.i IntKind.i64 (IntKind.i64.wrap (r.advN n))))))) := by kernel_rfl

end Go.Sx
