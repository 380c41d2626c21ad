/-
  The row RasterPlays: whatever the input, the law returns true and its arguments read behind the call as before. No condition but the row's own.
  The code is stepped through by the evaluator of the texts Sx1 .. Sx16 (own work), whose soundness is proved there.
-/
import Derived.Test.YtmgaphghjhbhhaaRows
import Derived.Test.YtmgaphghjhbhhaaRxD
import Derived.Test.YtmgaphghjhbhhaaSxB
import Derived.WalkKit
import Derived.ProofKit
import Derived.OpenShut
import Derived.ChangeOld
import Derived.Below
import Derived.Carry
import Derived.SizedLaws
namespace Go.Proofs.Ytmgaphghjhbhhaa.rasterPlays
open Go.ChangeShapes Go.WideShapes Go.ChangeAt Go.RowKit Go.Sx
set_option linter.unusedVariables false
set_option linter.unusedSimpArgs false
theorem own : ownKnob Try.prog.godebug = none := by kernel_rfl
theorem params : Try.f11.params.toList = [41] := by kernel_rfl
theorem okTs : ([41] : List TypeId).all (okT Try.prog 3) = true := by kernel_rfl
theorem rdTs : ([41] : List TypeId).all (fun t => Try.prog.readableRec t && decide (t < Try.prog.types.size)) = true := by kernel_rfl
theorem laid : laidOutB Try.prog = true := by kernel_rfl
theorem under4 : Try.prog.underlying 4 = some .bool := by kernel_rfl
set_option maxRecDepth 100000 in
theorem lifted (os : Os) (started : os.Started) (H : Type) (enc : TypeId × Value → H) :
    ReturnsInHanded {} Try.checked os 11 .any (Rows.rasterPlaysSpec.pre6 enc Try.prog Try.f11 Rows.rasterPlaysRow.domain false) (Rows.rasterPlaysSpec.post enc Try.prog Try.f11 false true false false) := by
  refine returnsInHanded_of_change_sized (C := Try.checked) own started (by kernel_rfl) Try.func11
    (ChangeSpec.witness6 (enc := enc) (C := Try.checked) false ⟨#[], #[.slice none 0 0], []⟩ 8 (by kernel_rfl) (by kernel_rfl) (by kernel_rfl) (by kernel_rfl)) ?_
  intro W base args ds gs before hval0 hW hcnd hsz0 _
  have hval : ∀ (j : Nat) t v, Try.f11.params[j]? = some t → args[j]? = some v → Value.okWide Try.prog W .any base t v := hval0
  have hW' := hW
  obtain ⟨p, q, hA0, hV, rfl, hfz, hnd⟩ := hW
  have hA : DataW.TrodAll enc Try.prog W 0 (fun _ => true) true Try.f11.params.toList args.toList ds p := hA0
  obtain ⟨rfl, rfl⟩ := trodVars_none hV
  have hA1 : DataW.TrodAll enc Try.prog W 0 (fun _ => true) true [41] args.toList ds p := by rw [← params]; exact hA
  have hlt := hW'.lt
  obtain ⟨svs, hI, hR, hcl⟩ := open_args (S := S0 W) rfl 3 _ _ _ _ okTs (fun j t v h1 h2 => hval j t v (by rw [← Array.getElem?_toList, params]; exact h1) (by rw [← Array.getElem?_toList]; exact h2)) hA1
  obtain ⟨svs, hR, hk⟩ := w11 hI hR
  refine (law_sound (E0_ok _ _) gB11_ok (L11_ok _) 1 Try.func11 (E0_glob _ _ (S0 W)) hR ?_).mono fun e W' ⟨he, bel⟩ => ?_
  · exact hk
  subst he
  have hl := trodAll_len hA1
  rcases ds with _ | ⟨d1, _ | ⟨d2, l⟩⟩
  · simp at hl
  rotate_left
  · simp at hl
  exact ⟨_, rfl, _, _, _, [], p, [], hW', trodAll_mk1 (shut_bool under4 _), by rw [params]; exact shut_args laid bel _ _ _ _ rdTs (fun x hx => hlt x (by simp [hx])) hA1, rfl, bel.frame _, fun h => by cases h⟩
theorem over : Rows.rasterPlaysRow.holds Try.pinned (OpenSpec.ofChange Rows.rasterPlaysSpec) :=
  OpenClaim.holds_of_wide 11 Try.f11 rfl rfl rfl rfl rfl rfl rfl ⟨rfl, rfl, rfl, rfl, rfl⟩ rfl rfl rfl rfl rfl (by kernel_rfl) Try.func11 (by kernel_rfl)
    (of_decide_eq_true (by kernel_rfl)) (by unfold Func.isWrapper; first | (rw [if_pos (by decide +kernel)]; kernel_rfl) | (rw [if_neg (by decide +kernel)]; exact ⟨rfl, rfl⟩))
    (fun os started H enc _ => lifted os started H enc)
theorem proved : Rows.RasterPlaysSaid := over
end Go.Proofs.Ytmgaphghjhbhhaa.rasterPlays
namespace Go.Proofs.Ytmgaphghjhbhhaa
/-- The row, under a short name, for the claim. -/
theorem rasterPlays_holds : Rows.RasterPlaysSaid := rasterPlays.proved
end Go.Proofs.Ytmgaphghjhbhhaa
