/- SxR14: runs, Advance: trees. -/
import Derived.Test.YtmgaphghjhbhhaaSxR13
namespace Go.Sx
open Go.Proofs
set_option linter.unusedVariables false
set_option linter.unusedSimpArgs false

def cRuns : Con := .pure (preRN fun r n => okRuns r n 0) (onRN fun r n => two (Ras.its n.toNat r).sv (.i .i64 (Ras.cks n.toNat r)))
def Ras.advR (r : Ras) (n : Int) : Ras := if r.valid = true ∧ 1 ≤ n then Ras.its (3 * n.toNat) r else r
def Ras.advN (r : Ras) (n : Int) : Int := if r.valid = true ∧ 1 ≤ n then Ras.cks (3 * n.toNat) r else 0
def cAdv : Con := .pure (preRN fun r n => i64 n) (onRN fun r n => two (r.advR n).sv (.i .i64 (IntKind.wrap .i64 (r.advN n))))
def g7 : List (Nat × Con) := [(50, cRuns), (27, cV), (28, cV), (44, cT)]

def st35 (r q : Ras) (n z c : Int) : St := ⟨[(1, .i .i64 n), (2, .ptr 0 []), (4, .ptr 1 []), (5, .i .i64 z), (8, .i .i64 c)], [r.sv, q.sv]⟩
def keep35 : List Tmp := [1, 2, 4, 5, 8]

theorem t50 (r : Ras) (n : Int) : bodyK (E0 g6 L50) (callN (E0 g6 L50) 1) 50 Try.f50 [r.sv, .i .i64 n] [] (fun x _ => onB (x.cl 0) (x = two (Ras.its n.toNat r).sv (.i .i64 (Ras.cks n.toNat r)))) = (
  Chk (okRuns r n 0) ∧ two (Ras.its n.toNat r).sv (SV.i IntKind.i64 (0 + Ras.cks n.toNat r)) = two (Ras.its n.toNat r).sv (SV.i IntKind.i64 (Ras.cks n.toNat r)) ∧ ∀ (r' : Ras) (n' c' : Int), two (Ras.its n.toNat r).sv (SV.i IntKind.i64 (0 + Ras.cks n.toNat r)) = two (Ras.its n.toNat r).sv (SV.i IntKind.i64 (Ras.cks n.toNat r))) := by kernel_rfl
theorem t34 (r : Ras) (n : Int) : bodyK (E0 g7 noLoop) (callN (E0 g7 noLoop) 1) 34 Try.f34 [r.sv, .i .i64 n] [] (fun x _ => onB (x.cl 0) (x = two (r.advR n).sv (.i .i64 (IntKind.wrap .i64 (r.advN n))))) = (
  br (!decide (n < 1) && true)
  (True ∧
    br (decide (n < 1) || !r.valid) (two r.sv (SV.i IntKind.i64 0) = two (r.advR n).sv (SV.i IntKind.i64 (IntKind.i64.wrap (r.advN n))))
      (br r.draw
        (br (decide (IntKind.i64.wrap (2 * 178683) < n))
          (Chk (okRuns r (IntKind.i64.wrap (3 * IntKind.i64.wrap (n - IntKind.i64.wrap (IntKind.i64.wrap ((IntKind.i64.wrap (n - 178683)).tdiv 178683) * 178683)))) 0) ∧
            two (Ras.its (IntKind.i64.wrap (3 * IntKind.i64.wrap (n - IntKind.i64.wrap (IntKind.i64.wrap ((IntKind.i64.wrap (n - 178683)).tdiv 178683) * 178683)))).toNat r).sv
                (SV.i IntKind.i64 (IntKind.i64.wrap (IntKind.i64.wrap (IntKind.i64.wrap ((IntKind.i64.wrap (n - 178683)).tdiv 178683) * 1446) + Ras.cks (IntKind.i64.wrap (3 * IntKind.i64.wrap (n - IntKind.i64.wrap (IntKind.i64.wrap ((IntKind.i64.wrap (n - 178683)).tdiv 178683) * 178683)))).toNat r))) =
              two (r.advR n).sv (SV.i IntKind.i64 (IntKind.i64.wrap (r.advN n))))
          (Chk (okRuns r (IntKind.i64.wrap (3 * n)) 0) ∧ two (Ras.its (IntKind.i64.wrap (3 * n)).toNat r).sv (SV.i IntKind.i64 (IntKind.i64.wrap (0 + Ras.cks (IntKind.i64.wrap (3 * n)).toNat r))) = two (r.advR n).sv (SV.i IntKind.i64 (IntKind.i64.wrap (r.advN n)))))
        (br (decide (IntKind.i64.wrap (2 * 178684) < n))
          (Chk (okRuns r (IntKind.i64.wrap (3 * IntKind.i64.wrap (n - IntKind.i64.wrap (IntKind.i64.wrap ((IntKind.i64.wrap (n - 178684)).tdiv 178684) * 178684)))) 0) ∧
            two (Ras.its (IntKind.i64.wrap (3 * IntKind.i64.wrap (n - IntKind.i64.wrap (IntKind.i64.wrap ((IntKind.i64.wrap (n - 178684)).tdiv 178684) * 178684)))).toNat r).sv
                (SV.i IntKind.i64 (IntKind.i64.wrap (IntKind.i64.wrap (IntKind.i64.wrap ((IntKind.i64.wrap (n - 178684)).tdiv 178684) * 0) + Ras.cks (IntKind.i64.wrap (3 * IntKind.i64.wrap (n - IntKind.i64.wrap (IntKind.i64.wrap ((IntKind.i64.wrap (n - 178684)).tdiv 178684) * 178684)))).toNat r))) =
              two (r.advR n).sv (SV.i IntKind.i64 (IntKind.i64.wrap (r.advN n))))
          (Chk (okRuns r (IntKind.i64.wrap (3 * n)) 0) ∧ two (Ras.its (IntKind.i64.wrap (3 * n)).toNat r).sv (SV.i IntKind.i64 (IntKind.i64.wrap (0 + Ras.cks (IntKind.i64.wrap (3 * n)).toNat r))) = two (r.advR n).sv (SV.i IntKind.i64 (IntKind.i64.wrap (r.advN n)))))))
  (br (decide (n < 1) || !false) (two r.sv (SV.i IntKind.i64 0) = two (r.advR n).sv (SV.i IntKind.i64 (IntKind.i64.wrap (r.advN n))))
    (br r.draw
      (br (decide (IntKind.i64.wrap (2 * 178683) < n))
        (Chk (okRuns r (IntKind.i64.wrap (3 * IntKind.i64.wrap (n - IntKind.i64.wrap (IntKind.i64.wrap ((IntKind.i64.wrap (n - 178683)).tdiv 178683) * 178683)))) 0) ∧
          two (Ras.its (IntKind.i64.wrap (3 * IntKind.i64.wrap (n - IntKind.i64.wrap (IntKind.i64.wrap ((IntKind.i64.wrap (n - 178683)).tdiv 178683) * 178683)))).toNat r).sv
              (SV.i IntKind.i64 (IntKind.i64.wrap (IntKind.i64.wrap (IntKind.i64.wrap ((IntKind.i64.wrap (n - 178683)).tdiv 178683) * 1446) + Ras.cks (IntKind.i64.wrap (3 * IntKind.i64.wrap (n - IntKind.i64.wrap (IntKind.i64.wrap ((IntKind.i64.wrap (n - 178683)).tdiv 178683) * 178683)))).toNat r))) =
            two (r.advR n).sv (SV.i IntKind.i64 (IntKind.i64.wrap (r.advN n))))
        (Chk (okRuns r (IntKind.i64.wrap (3 * n)) 0) ∧ two (Ras.its (IntKind.i64.wrap (3 * n)).toNat r).sv (SV.i IntKind.i64 (IntKind.i64.wrap (0 + Ras.cks (IntKind.i64.wrap (3 * n)).toNat r))) = two (r.advR n).sv (SV.i IntKind.i64 (IntKind.i64.wrap (r.advN n)))))
      (br (decide (IntKind.i64.wrap (2 * 178684) < n))
        (Chk (okRuns r (IntKind.i64.wrap (3 * IntKind.i64.wrap (n - IntKind.i64.wrap (IntKind.i64.wrap ((IntKind.i64.wrap (n - 178684)).tdiv 178684) * 178684)))) 0) ∧
          two (Ras.its (IntKind.i64.wrap (3 * IntKind.i64.wrap (n - IntKind.i64.wrap (IntKind.i64.wrap ((IntKind.i64.wrap (n - 178684)).tdiv 178684) * 178684)))).toNat r).sv
              (SV.i IntKind.i64 (IntKind.i64.wrap (IntKind.i64.wrap (IntKind.i64.wrap ((IntKind.i64.wrap (n - 178684)).tdiv 178684) * 0) + Ras.cks (IntKind.i64.wrap (3 * IntKind.i64.wrap (n - IntKind.i64.wrap (IntKind.i64.wrap ((IntKind.i64.wrap (n - 178684)).tdiv 178684) * 178684)))).toNat r))) =
            two (r.advR n).sv (SV.i IntKind.i64 (IntKind.i64.wrap (r.advN n))))
        (Chk (okRuns r (IntKind.i64.wrap (3 * n)) 0) ∧ two (Ras.its (IntKind.i64.wrap (3 * n)).toNat r).sv (SV.i IntKind.i64 (IntKind.i64.wrap (0 + Ras.cks (IntKind.i64.wrap (3 * n)).toNat r))) = two (r.advR n).sv (SV.i IntKind.i64 (IntKind.i64.wrap (r.advN n)))))))) := by kernel_rfl
theorem tl35 (r q : Ras) (n z c : Int) (N : St → Prop) (X : Kont) : (execC (E0 g7 noLoop) (callN (E0 g7 noLoop) 1) 35 Try.f35.ntmps (codeL Try.f35 13) (st35 r q n z c) (oneK keep35 2 N X)) = (
  br (decide (0 < n)) (Chk (r.valid = true) ∧ N (St.mk [(1, SV.i IntKind.i64 (IntKind.i64.wrap (n - 1))), (2, SV.ptr 0 []), (4, SV.ptr 1 []), (5, SV.i IntKind.i64 z), (8, SV.i IntKind.i64 (IntKind.i64.wrap (c + r.tickN)))] [r.tickR.sv, q.sv])) (X (Exit.exit 0) (St.mk [(1, SV.i IntKind.i64 n), (2, SV.ptr 0 []), (4, SV.ptr 1 []), (5, SV.i IntKind.i64 z), (8, SV.i IntKind.i64 c)] [r.sv, q.sv]))) := by kernel_rfl

end Go.Sx
