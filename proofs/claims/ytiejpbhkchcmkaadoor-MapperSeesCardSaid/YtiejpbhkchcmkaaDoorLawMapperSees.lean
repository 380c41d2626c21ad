/-
  The tied card of the row MapperSees: whatever the input, the law returns true and its arguments read behind the call as before; the variable tandem/mapper.subs reads as the program's text lays it. No condition but the row's own.
  The code is stepped through by the evaluator of the texts Sx.. (own work), whose soundness is proved there.
-/
import Derived.Test.YtiejpbhkchcmkaaDoorRows
import Derived.Test.YtiejpbhkchcmkaaDoorCards
import Derived.Test.YtiejpbhkchcmkaaDoorTie
import Derived.Test.YtiejpbhkchcmkaaDoorBxE
import Derived.Test.YtiejpbhkchcmkaaDoorBxC
import Derived.Test.YtiejpbhkchcmkaaDoorSxB
import Derived.WalkKit
import Derived.ProofKit
import Derived.OpenShut
import Derived.ChangeOld
import Derived.Below
import Derived.Carry
import Derived.SizedLaws
import Derived.SevenTiedAt
namespace Go.Proofs.YtiejpbhkchcmkaaDoor.mapperSees
open Go.ChangeShapes Go.WideShapes Go.ChangeAt Go.RowKit Go.Sx
set_option linter.unusedVariables false
set_option linter.unusedSimpArgs false
set_option maxRecDepth 100000
theorem own : ownKnob Tryd.prog.godebug = none := by kernel_rfl
theorem params : Tryd.f6.params.toList = [27, 41, 3] := by kernel_rfl
theorem okTs : ([27, 41, 3] : List TypeId).all (okT Tryd.prog 3) = true := by kernel_rfl
theorem rdTs : ([27, 41, 3] : List TypeId).all (fun t => Tryd.prog.readableRec t && decide (t < Tryd.prog.types.size)) = true := by kernel_rfl
theorem laidOut : laidOutB Tryd.prog = true := by kernel_rfl
theorem under4 : Tryd.prog.underlying 4 = some .bool := by kernel_rfl
theorem lifted (os : Os) (started : os.Started) (H : Type) (enc : TypeId × Value → H) :
    ReturnsInHanded {} Tryd.checked os 6 .any (fun w args => (Rows.mapperSeesSpec.pre enc Tryd.prog Tryd.f6 [] false w args ∧ laidMet Tryd.prog [("tandem/mapper.subs", Rows.laid_tandem_mapper_subs)] w) ∧ sizedMet enc Tryd.prog Tryd.f6 (OpenSpec.ofChange Rows.mapperSeesSpec) false w args) (Rows.mapperSeesSpec.post enc Tryd.prog Tryd.f6 false true false false) := by
  refine returnsInHanded_of_change_and (C := Tryd.checked) (X := fun w _ => laidMet Tryd.prog [("tandem/mapper.subs", Rows.laid_tandem_mapper_subs)] w) (fun _ _ _ hh h => h.of_heap hh) own started (by kernel_rfl) Tryd.func6
    (ChangeSpec.witness_at (enc := enc) (C := Tryd.checked) (os := os) (X := fun w _ => laidMet Tryd.prog [("tandem/mapper.subs", Rows.laid_tandem_mapper_subs)] w) false (laidWorld os) #[.agg #[.int .i64 0, .int .i64 0, .int .u8 0, .bool false, .int .i64 0, .int .i64 0, .bool false, .int .u8 0, .int .u8 0, .int .u8 0, .int .u8 0, .int .u8 0, .int .i64 0, .int .u8 0, .int .u8 0, .int .u8 0, .int .u8 0, .int .u8 0, .int .u8 0, .int .u8 0, .int .u8 0, .int .u8 0, .int .u8 0, .int .u8 0, .int .u8 0, .int .u8 0, .int .u8 0, .bool false, .bool false, .bool false, .int .i64 0], .int .u16 0, .int .i64 0] 8 rfl (by kernel_rfl) (by kernel_rfl) (by kernel_rfl) (by kernel_rfl) (by kernel_rfl) (laidWorld_met os _)) ?_
  intro W base args ds gs before hval0 hW _ _ hL _
  have hval : ∀ (j : Nat) t v, Tryd.f6.params[j]? = some t → args[j]? = some v → Value.okWide Tryd.prog W .any base t v := hval0
  have hW' := hW
  obtain ⟨p, q, hA0, hV, rfl, hfz, hnd⟩ := hW
  have hA : DataW.TrodAll enc Tryd.prog W 0 (fun _ => true) true Tryd.f6.params.toList args.toList ds p := hA0
  obtain ⟨rfl, rfl⟩ := trodVars_none hV
  have hA1 : DataW.TrodAll enc Tryd.prog W 0 (fun _ => true) true [27, 41, 3] args.toList ds p := by rw [← params]; exact hA
  have hlt := hW'.lt
  obtain ⟨svs, hI, hR, hcl⟩ := open_args (S := S0 W) rfl 3 _ _ _ _ okTs (fun j t v h1 h2 => hval j t v (by rw [← Array.getElem?_toList, params]; exact h1) (by rw [← Array.getElem?_toList]; exact h2)) hA1
  refine (law_sound (EB_ok _ _) hD_ok (noLoops _) 1 Tryd.func6 (EB_glob hL) hR ?_).mono fun e W' ⟨he, bel⟩ => ?_
  · exact (w6 svs hI).ok
  subst he
  have hl := trodAll_len hA1
  rcases ds with _ | ⟨d1, _ | ⟨d2, _ | ⟨d3, _ | ⟨d4, l⟩⟩⟩⟩
  · simp at hl
  · simp at hl
  · simp at hl
  rotate_left
  · simp at hl
  exact ⟨_, rfl, _, _, _, [], p, [], hW', trodAll_mk1 (shut_bool under4 _), by rw [params]; exact shut_args laidOut bel _ _ _ _ rdTs (fun x hx => hlt x (by simp [hx])) hA1, rfl, bel.frame _, fun h => by cases h⟩
theorem over : Rows.mapperSeesRow.holds Tryd.pinned (OpenSpec.ofChange Rows.mapperSeesSpec) :=
  OpenClaim.holds_of_wide 6 Tryd.f6 rfl rfl rfl rfl rfl rfl rfl ⟨rfl, rfl, rfl, rfl, rfl⟩ rfl rfl rfl rfl rfl (by kernel_rfl) Tryd.func6 (by kernel_rfl)
    (of_decide_eq_true (by kernel_rfl)) (by unfold Func.isWrapper; first | (rw [if_pos (by decide +kernel)]; kernel_rfl) | (rw [if_neg (by decide +kernel)]; exact ⟨rfl, rfl⟩))
    (fun os started H enc _ => lifted os started H enc)
theorem proved : Rows.MapperSeesCardSaid :=
  Claim7.holds_tied_plain_at .later [] [.data] true (true, "9561a2589bc0badb7c31e78138e338353604206ab2884af1f087d3c4aec0d9ad") true
    over (fun _ h => by cases h) (by kernel_rfl) (fun _ h => by cases h) mapperSees_row_tie rfl ⟨rfl, rfl⟩ (by kernel_rfl) rfl
    (fun f fn hf hfn => by
      obtain rfl : f = 6 := Option.some.inj ((show Tryd.prog.funcNamed "tandem/tandemlaw2.MapperSees" = some 6 by kernel_rfl).symm.trans hf) |>.symm
      obtain rfl : fn = Tryd.f6 := (Option.some.inj (Tryd.func6.symm.trans hfn)).symm
      exact ⟨by kernel_rfl, fun j t ht => by
        have hs : ([27, 41, 3] : List TypeId).all (fun t => !Tryd.prog.wantsStandIn t) = true := by kernel_rfl
        have hm : t ∈ ([27, 41, 3] : List TypeId) := by
          rw [← params]
          rw [← Array.getElem?_toList] at ht
          exact List.mem_of_getElem? ht
        have := List.all_eq_true.1 hs t hm
        have this2 : Tryd.prog.wantsStandIn t = false := by simpa using this
        exact this2⟩)
    (by kernel_rfl)
end Go.Proofs.YtiejpbhkchcmkaaDoor.mapperSees
namespace Go.Proofs.YtiejpbhkchcmkaaDoor
/-- The card, under a short name, for the claim. -/
theorem mapperSees_holds : Rows.MapperSeesCardSaid := mapperSees.proved
end Go.Proofs.YtiejpbhkchcmkaaDoor
