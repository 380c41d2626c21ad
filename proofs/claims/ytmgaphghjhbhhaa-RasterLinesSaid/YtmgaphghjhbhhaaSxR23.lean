/- SxR23: the document's Next: one round of its loop. -/
import Derived.Test.YtmgaphghjhbhhaaSxR22
import Derived.Test.YtmgaphghjhbhhaaSxM3
import Derived.Test.YtmgaphghjhbhhaaSxR20
namespace Go.Sx
open Go.Proofs
set_option linter.unusedVariables false
set_option linter.unusedSimpArgs false
def st31 (r : Ras) (now : Bool) (n z : Int) : St := ⟨[(1, .ptr 0 []), (2, .i .i64 z), (4, .b now), (5, .i .i64 n)], [r.sv]⟩
def keep31 : List Tmp := [1, 2, 4, 5]

theorem tl31 (r : Ras) (now : Bool) (n z : Int) (N : St → Prop) (X : Kont) : (execC (E0 g9 noLoop) (callN (E0 g9 noLoop) 1) 31 Try.f31.ntmps (codeL Try.f31 8) (st31 r now n z) (oneK keep31 1 N X)) = (
  br (r.vbl == now) (Chk (r.valid = true) ∧ N (St.mk [(1, SV.ptr 0 []), (2, SV.i IntKind.i64 z), (4, SV.b now), (5, SV.i IntKind.i64 (IntKind.i64.wrap (n + 1)))] [r.tickR.sv])) (X (Exit.exit 0) (St.mk [(1, SV.ptr 0 []), (2, SV.i IntKind.i64 z), (4, SV.b now), (5, SV.i IntKind.i64 n)] [r.sv]))) := by kernel_rfl

end Go.Sx
