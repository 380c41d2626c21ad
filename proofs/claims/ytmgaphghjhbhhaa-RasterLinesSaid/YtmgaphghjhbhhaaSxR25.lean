/- SxR25: the document's Next: tree. -/
import Derived.Test.YtmgaphghjhbhhaaSxR24
namespace Go.Sx
open Go.Proofs
set_option linter.unusedVariables false
set_option linter.unusedSimpArgs false

theorem t31 (r : Ras) : bodyK (E0 g9 L31) (callN (E0 g9 L31) 1) 31 Try.f31 [r.sv] [] (fun x _ => onB (x.cl 0) (x = .i .i64 r.nextN)) = (
  True ∧ br (!r.valid) (SV.i IntKind.i64 0 = SV.i IntKind.i64 r.nextN) (br (!r.nmi) (SV.i IntKind.i64 4611686018427387904 = SV.i IntKind.i64 r.nextN) (Chk (ok31 r r.vbl 0) ∧ SV.i IntKind.i64 ↑r.nextJ = SV.i IntKind.i64 r.nextN))) := by kernel_rfl
theorem p31 (r : Ras) : bodyK (E0 g9 L31) (callN (E0 g9 L31) 1) 31 Try.f31 [r.sv] [] (fun x _ => onB (x.cl 0) (x = .i .i64 r.nextN)) := by
  rw [t31]
  refine ⟨trivial, br_in (fun a => ?_) (fun a => br_in (fun b => ?_) (fun b => ?_))⟩ <;> simp at a
  · unfold Ras.nextN; rw [a]; rfl
  · simp at b; unfold Ras.nextN; rw [a, b]; rfl
  · simp at b
    have hd := nextD_range a
    refine ⟨⟨a, rfl, rfl⟩, ?_⟩
    unfold Ras.nextN Ras.nextJ
    rw [if_pos a, if_pos b]
    congr 1; omega
theorem g9L_ok : GamOK (E0 g9 L31) := gam_ok rfl ⟨con27.of, con28.of, con41.of, con47.of, con48.of, con44.of, trivial⟩
theorem con31 : ConOK (E0 g9 L31) 31 cNext := conR g9L_ok (L31_ok _) 1 Try.func31 fun r _ => p31 r

end Go.Sx
