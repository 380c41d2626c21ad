/- SxR12: runs: one round of its loop, what is ahead and behind. -/
import Derived.Test.YtmgaphghjhbhhaaSxR11
import Derived.Test.YtmgaphghjhbhhaaSxM2
namespace Go.Sx
open Go.Proofs
set_option linter.unusedVariables false
set_option linter.unusedSimpArgs false

def g6 : List (Nat × Con) := [(56, cSkip), (41, cPlace), (47, cLen), (23, cDot)]
def st50 (r q : Ras) (n z c : Int) : St := ⟨[(1, .i .i64 n), (2, .ptr 0 []), (4, .ptr 1 []), (5, .i .i64 z), (6, .i .i64 c)], [r.sv, q.sv]⟩
def keep50 : List Tmp := [1, 2, 4, 5, 6]
/-- One round, then N; an end, then X. -/
def oneK (keep : List Tmp) (m : Nat) (N : St → Prop) (X : Kont) : Kont := fun e st => match normSt keep m st with
  | some s => (match e with
    | .normal => N s
    | e => X e s)
  | none => False

theorem tl50 (r q : Ras) (n z c : Int) (N : St → Prop) (X : Kont) : (execC (E0 g6 noLoop) (callN (E0 g6 noLoop) 1) 50 Try.f50.ntmps (codeL Try.f50 2) (st50 r q n z c) (oneK keep50 2 N X)) = (
  br (decide (0 < n))
  (True ∧
    Chk (r.valid = true) ∧
      br (decide (IntKind.i64.wrap (r.len - r.pl) ≤ 0))
        (Chk (r.valid = true) ∧
          br (decide (n < IntKind.i64.wrap (89342 - r.pl))) (Chk (okSkip r n) ∧ X Exit.ret (St.mk [(1, SV.i IntKind.i64 n), (2, SV.ptr 0 []), (4, SV.ptr 1 []), (5, SV.i IntKind.i64 (IntKind.i64.wrap (c + r.skN n))), (6, SV.i IntKind.i64 c)] [r.sv, (r.jump (r.pl + n)).sv]))
            (Chk (okSkip r (IntKind.i64.wrap (IntKind.i64.wrap (89342 - r.pl) - 1))) ∧
              True ∧
                br (r.jump (r.pl + IntKind.i64.wrap (IntKind.i64.wrap (89342 - r.pl) - 1))).dotC
                  (N (St.mk [(1, SV.i IntKind.i64 (IntKind.i64.wrap (n - IntKind.i64.wrap (89342 - r.pl)))), (2, SV.ptr 0 []), (4, SV.ptr 1 []), (5, SV.i IntKind.i64 z), (6, SV.i IntKind.i64 (IntKind.i64.wrap (IntKind.i64.wrap (c + r.skN (IntKind.i64.wrap (IntKind.i64.wrap (89342 - r.pl) - 1))) + 1)))] [(r.jump (r.pl + IntKind.i64.wrap (IntKind.i64.wrap (89342 - r.pl) - 1))).dotR.sv, q.sv]))
                  (N (St.mk [(1, SV.i IntKind.i64 (IntKind.i64.wrap (n - IntKind.i64.wrap (89342 - r.pl)))), (2, SV.ptr 0 []), (4, SV.ptr 1 []), (5, SV.i IntKind.i64 z), (6, SV.i IntKind.i64 (IntKind.i64.wrap (c + r.skN (IntKind.i64.wrap (IntKind.i64.wrap (89342 - r.pl) - 1)))))] [(r.jump (r.pl + IntKind.i64.wrap (IntKind.i64.wrap (89342 - r.pl) - 1))).dotR.sv, q.sv]))))
        (br (decide (n < IntKind.i64.wrap (r.len - r.pl))) (Chk (okSkip r n) ∧ X Exit.ret (St.mk [(1, SV.i IntKind.i64 n), (2, SV.ptr 0 []), (4, SV.ptr 1 []), (5, SV.i IntKind.i64 (IntKind.i64.wrap (c + r.skN n))), (6, SV.i IntKind.i64 c)] [r.sv, (r.jump (r.pl + n)).sv]))
          (Chk (okSkip r (IntKind.i64.wrap (IntKind.i64.wrap (r.len - r.pl) - 1))) ∧
            True ∧
              br (r.jump (r.pl + IntKind.i64.wrap (IntKind.i64.wrap (r.len - r.pl) - 1))).dotC
                (N (St.mk [(1, SV.i IntKind.i64 (IntKind.i64.wrap (n - IntKind.i64.wrap (r.len - r.pl)))), (2, SV.ptr 0 []), (4, SV.ptr 1 []), (5, SV.i IntKind.i64 z), (6, SV.i IntKind.i64 (IntKind.i64.wrap (IntKind.i64.wrap (c + r.skN (IntKind.i64.wrap (IntKind.i64.wrap (r.len - r.pl) - 1))) + 1)))] [(r.jump (r.pl + IntKind.i64.wrap (IntKind.i64.wrap (r.len - r.pl) - 1))).dotR.sv, q.sv]))
                (N (St.mk [(1, SV.i IntKind.i64 (IntKind.i64.wrap (n - IntKind.i64.wrap (r.len - r.pl)))), (2, SV.ptr 0 []), (4, SV.ptr 1 []), (5, SV.i IntKind.i64 z), (6, SV.i IntKind.i64 (IntKind.i64.wrap (c + r.skN (IntKind.i64.wrap (IntKind.i64.wrap (r.len - r.pl) - 1)))))] [(r.jump (r.pl + IntKind.i64.wrap (IntKind.i64.wrap (r.len - r.pl) - 1))).dotR.sv, q.sv])))))
  (X (Exit.exit 0) (St.mk [(1, SV.i IntKind.i64 n), (2, SV.ptr 0 []), (4, SV.ptr 1 []), (5, SV.i IntKind.i64 z), (6, SV.i IntKind.i64 c)] [r.sv, q.sv]))) := by kernel_rfl

end Go.Sx
