/- SxD1: an operation that makes no memory is a function of what it looks at. -/
import Derived.Test.YtmgaphghjhbhhaaSx11
namespace Go.Sx
set_option linter.unusedVariables false
set_option linter.unusedSimpArgs false

def Det (F : (SV → Prop) → Prop) : Prop := ∀ K, F K → ∃ v, K v ∧ ∀ K' : SV → Prop, K' v → F K'

theorem onB_in {x : Bool} {K : Prop} (h : x = true) (k : K) : onB x K := by subst h; exact k

theorem det_onB {x : Bool} {F : (SV → Prop) → Prop} (h : Det F) : Det (fun K => onB x (F K)) := by
  intro K hk
  obtain ⟨hx, hk⟩ := onB_out hk
  obtain ⟨v, h1, h2⟩ := h K hk
  exact ⟨v, h1, fun K' k => onB_in hx (h2 K' k)⟩
theorem det_K {v : SV} : Det (fun K => K v) := fun K hk => ⟨v, hk, fun K' k => k⟩
theorem det_F : Det (fun _ => False) := fun K hk => hk.elim

theorem det_pickK {c : Bool} {x y : SV} : Det (pickK c x y) := by
  unfold pickK
  split
  · exact det_K
  · exact det_onB det_K
  · split
    · exact det_K
    · exact det_K

theorem det_binK {P : Program} {op : BinOp} {T : TypeId} {a b : SV} : Det (binK P op T a b) := by
  unfold binK
  cases op <;> dsimp only
  all_goals (
    split
    all_goals first
      | exact det_F
      | exact det_K
      | exact det_onB det_K
      | exact det_onB (det_onB det_K)
      | (split
         all_goals first
           | exact det_F
           | exact det_K))

theorem det_unK {op : UnOp} {a : SV} : Det (unK op a) := by
  unfold unK
  cases op <;> dsimp only
  all_goals first
    | exact det_F
    | (split
       all_goals first
         | exact det_F
         | exact det_K)

theorem det_loadK {P : Program} {T : TypeId} {p : SV} {M : Mem} : Det (loadK P T p M) := by
  unfold loadK
  split
  · split
    · split
      · exact det_onB det_K
      · exact det_F
    · exact det_F
  · exact det_onB det_K
  · exact det_F

theorem det_fieldK {P : Program} {T : TypeId} {f : Nat} {t : SV} {F : SV → (SV → Prop) → Prop} (h : ∀ a, Det (F a)) : Det (fun K => fieldK P T f t (fun a => F a K)) := by
  unfold fieldK
  split
  · split
    · exact det_onB (h _)
    · exact det_F
  · exact det_F

theorem det_fieldAddrK {P : Program} {T : TypeId} {f : Nat} {p : SV} {M : Mem} : Det (fieldAddrK P T f p M) := by
  unfold fieldAddrK
  split
  · split
    · split
      · exact det_fieldK (F := fun _ K => K _) fun _ => det_K
      · exact det_F
    · exact det_F
  · exact det_fieldK (F := fun a K => K (.cptr a)) fun _ => det_K
  · exact det_F

theorem det_elemK {P : Program} {T : TypeId} {t : SV} {ix : Int} {F : PStep → SV → (SV → Prop) → Prop} (h : ∀ s a, Det (F s a)) : Det (fun K => elemK P T t ix (fun s a => F s a K)) := by
  unfold elemK
  split
  · split
    · exact det_onB (det_onB (h _ _))
    · refine det_onB ?_
      split
      · exact det_onB (h _ _)
      · exact det_F
    · exact det_F
  · exact det_F

theorem det_indexAddrK {P : Program} {T : TypeId} {p ix : SV} {M : Mem} : Det (indexAddrK P T p ix M) := by
  unfold indexAddrK
  split
  · split
    · split
      · split
        · exact det_elemK (F := fun s _ K => K _) fun _ _ => det_K
        · exact det_F
      · exact det_F
    · exact det_elemK (F := fun _ a K => K (.cptr a)) fun _ _ => det_K
    · split
      · exact det_onB (det_onB det_K)
      · exact det_F
    · split
      · exact det_onB (det_onB det_K)
      · exact det_F
    · split
      · exact det_onB (det_onB det_K)
      · exact det_F
    · exact det_F
  · exact det_F

theorem det_indexK {P : Program} {T : TypeId} {t ix : SV} : Det (indexK P T t ix) := by
  unfold indexK
  split
  · refine det_elemK (F := fun _ a K => match arrT P T with
      | some (_, e) => onB (ldOK P e a) (K a)
      | none => False) fun _ a => ?_
    split
    · exact det_onB det_K
    · exact det_F
  · exact det_F

theorem det_builtinK {P : Program} {b : Builtin} {at_ : Array TypeId} {args : List SV} {M : Mem} : Det (fun K => builtinK P b at_ args M (fun v _ => K v)) := by
  unfold builtinK
  split
  · split
    · split
      · split
        all_goals first
          | exact det_F
          | exact det_K
      · exact det_K
      · exact det_F
    · exact det_F
  · split
    · split
      · exact det_K
      · exact det_F
    · exact det_F
  · split
    · split
      · exact det_K
      · exact det_F
    · exact det_F
  · exact det_F

theorem det_opK {E : Env} {o : Oper} {ev : Operand → Option SV} {M : Mem} (hp : plainOp o.op = true) : Det (fun K => opK E noCall o ev M (fun v _ => K v)) := by
  unfold opK
  split
  · split
    · exact det_K
    · exact det_F
  · split
    · exact det_K
    · exact det_F
  · rename_i hop; simp [hop, plainOp, quiet] at hp
  · rename_i hop; simp [hop, plainOp, quiet] at hp
  · split
    · split
      · exact det_K
      · exact det_F
    · exact det_F
  · split
    · exact det_loadK
    · exact det_F
  · rename_i hop; simp [hop, plainOp, quiet] at hp
  · split
    · exact det_K
    · exact det_K
    · exact det_K
    · exact det_K
    · exact det_F
  · split
    · exact det_binK
    · exact det_F
  · split
    · exact det_unK
    · exact det_F
  · split
    · split
      · exact det_K
      · exact det_F
    · exact det_F
  · split
    · split
      · exact det_F
      · exact det_onB det_K
      · exact det_F
    · exact det_F
  · split
    · exact det_fieldAddrK
    · exact det_F
  · split
    · refine det_fieldK (F := fun v K => match fOff E.P _ _ with
        | some (_, ft) => onB (ldOK E.P ft v) (K v)
        | none => False) fun a => ?_
      split
      · exact det_onB det_K
      · exact det_F
    · exact det_F
  · split
    · exact det_indexAddrK
    · exact det_F
  · split
    · exact det_indexK
    · exact det_F
  · split
    · split
      · exact det_onB det_K
      · exact det_F
    · exact det_F
  · rename_i hop; simp [hop, plainOp, quiet] at hp
  · exact det_F

theorem det_stepD {E : Env} {o : Oper} {env : List (Tmp × SV)} {loc : List (Tmp × Sl)} {ch : List (Tmp × Bool)} {M : Mem} : Det (stepD E o env loc ch M) := by
  unfold stepD
  split
  · unfold callD
    split
    · exact det_F
    · split
      · split
        · split
          · split
            · intro K hk
              obtain ⟨h1, h2, h3⟩ := onB_out hk
              exact ⟨_, h3, fun K' k => onB_in h1 ⟨h2, k⟩⟩
            · exact det_F
          · exact det_F
        · exact det_F
      · exact det_F
      · exact det_builtinK
  · intro K hk
    obtain ⟨hp, hk⟩ := onB_out hk
    have : Det (fun K => stepK E noCall o env loc ch M (fun v _ => K v)) := by
      unfold stepK
      split
      · split
        · split
          · split
            · exact det_K
            · exact det_pickK
          · split
            · exact det_K
            · exact det_pickK
          · exact det_pickK
        · exact det_F
      · exact det_opK hp
    obtain ⟨v, h1, h2⟩ := this K hk
    exact ⟨v, h1, fun K' k => onB_in hp (h2 K' k)⟩

/-! ### The same, where the same is looked at -/
def memG (M : Mem) (b : Nat) (p : List PStep) : Option SV := match getM M b with
  | some t => SV.get t p
  | none => none

theorem loadK_memG {P : Program} {T : TypeId} {b : Nat} {p : List PStep} {M : Mem} {K : SV → Prop} : loadK P T (.ptr b p) M K = (match memG M b p with
    | some v => onB (ldOK P T v) (K v)
    | none => False) := by
  unfold loadK memG
  dsimp only
  cases getM M b <;> rfl
theorem fieldAddrK_memG {P : Program} {T : TypeId} {f b : Nat} {p : List PStep} {M : Mem} {K : SV → Prop} : fieldAddrK P T f (.ptr b p) M K = (match memG M b p with
    | some v => fieldK P T f v (fun _ => K (.ptr b (p ++ [.f f])))
    | none => False) := by
  unfold fieldAddrK memG
  dsimp only
  cases getM M b <;> rfl
theorem indexAddrK_memG {P : Program} {T : TypeId} {b : Nat} {p : List PStep} {k : IntKind} {n : Int} {M : Mem} {K : SV → Prop} : indexAddrK P T (.ptr b p) (.i k n) M K = (match memG M b p with
    | some v => elemK P T v n (fun s _ => K (.ptr b (p ++ [s])))
    | none => False) := by
  unfold indexAddrK memG
  dsimp only
  cases getM M b <;> rfl

theorem evAll_congr {ev ev' : Operand → Option SV} : ∀ (l : List Operand), (∀ x ∈ l, ev' x = ev x) → evAll ev' l = evAll ev l
  | [], _ => rfl
  | o :: l, h => by simp only [evAll]; rw [h o (by simp), evAll_congr l fun x hx => h x (by simp [hx])]
theorem evParts_congr {ev ev' : Operand → Option SV} : ∀ (l : List (Nat × Operand)), (∀ x ∈ l, ev' x.2 = ev x.2) → evParts ev' l = evParts ev l
  | [], _ => rfl
  | (i, o) :: l, h => by simp only [evParts]; rw [h (i, o) (by simp), evParts_congr l fun x hx => h x (by simp [hx])]

theorem opK_congr {E : Env} {o : Oper} {ev ev' : Operand → Option SV} {M M' : Mem} {K : SV → Prop} (hp : plainOp o.op = true) (he : ∀ x ∈ o.op.operands, ev' x = ev x)
    (hm : ∀ b p, foot o.op ev = some (b, p) → memG M' b p = memG M b p) (h : opK E noCall o ev M (fun v _ => K v)) : opK E noCall o ev' M' (fun v _ => K v) := by
  unfold opK at h ⊢
  split at h <;> (try (exact h.elim)) <;> rename_i hop <;> simp only [hop] at hp he hm
  all_goals (try (simp [plainOp, quiet] at hp; done))
  · rw [he _ (by simp [Op.operands])]; exact h
  · rw [he _ (by simp [Op.operands])]; exact h
  · rename_i T parts
    have : evParts ev' parts.toList = evParts ev parts.toList := by
      refine evParts_congr _ fun x hx => he _ ?_
      simp only [Op.operands, List.mem_toArray, List.mem_map]
      exact ⟨x, hx, rfl⟩
    rw [this]; exact h
  · rw [he _ (by simp [Op.operands])]
    split at h
    · rename_i v hv
      cases v with
      | ptr b p =>
        have := hm b p (by simp [foot, hv])
        rw [loadK_memG] at h ⊢
        rw [this]; exact h
      | _ => exact h
    · exact h.elim
  · rw [he _ (by simp [Op.operands])]
    split at h <;> first
      | exact h
      | exact h.elim
  · rw [he _ (by simp [Op.operands]), he _ (by simp [Op.operands])]; exact h
  · rw [he _ (by simp [Op.operands])]; exact h
  · rw [he _ (by simp [Op.operands])]; exact h
  · rw [he _ (by simp [Op.operands])]; exact h
  · rw [he _ (by simp [Op.operands])]
    split at h
    · rename_i v hv
      cases v with
      | ptr b p =>
        have := hm b p (by simp [foot, hv])
        rw [fieldAddrK_memG] at h ⊢
        rw [this]; exact h
      | _ => exact h
    · exact h.elim
  · rw [he _ (by simp [Op.operands])]; exact h
  · rw [he _ (by simp [Op.operands]), he _ (by simp [Op.operands])]
    split at h
    · rename_i v n hv hn
      cases v with
      | ptr b p =>
        have := hm b p (by simp [foot, hv])
        cases n with
        | i k m =>
          rw [indexAddrK_memG] at h ⊢
          rw [this]; exact h
        | _ => exact h
      | _ => exact h
    · exact h.elim
  · rw [he _ (by simp [Op.operands]), he _ (by simp [Op.operands])]; exact h
  · rw [he _ (by simp [Op.operands])]; exact h

theorem evT_congr {env : List (Tmp × SV)} {loc loc' : List (Tmp × Sl)} {ch : List (Tmp × Bool)} {t : Tmp} (h : lookL loc' t = lookL loc t) : evT env loc' ch t = evT env loc ch t := by
  unfold evT; rw [h]
theorem evO_congr {gl : Nat → Option SV} {env : List (Tmp × SV)} {loc loc' : List (Tmp × Sl)} {ch : List (Tmp × Bool)} {x : Operand} (h : ∀ t, x = .tmp t → lookL loc' t = lookL loc t) :
    evO gl env loc' ch x = evO gl env loc ch x := by
  cases x <;> first | exact evT_congr (h _ rfl) | rfl

theorem stepD_congr {E : Env} {o : Oper} {env : List (Tmp × SV)} {loc loc' : List (Tmp × Sl)} {ch : List (Tmp × Bool)} {M M' : Mem} {K : SV → Prop}
    (hl : ∀ t, .tmp t ∈ o.op.operands → lookL loc' t = lookL loc t) (hm : ∀ b p, foot o.op (evO E.glob env loc ch) = some (b, p) → memG M' b p = memG M b p)
    (h : stepD E o env loc ch M K) : stepD E o env loc' ch M' K := by
  have he : ∀ ch x, x ∈ o.op.operands → evO E.glob env loc' ch x = evO E.glob env loc ch x := fun ch x hx => evO_congr fun t e => hl t (e ▸ hx)
  unfold stepD at h ⊢
  split at h
  · rename_i c hop
    simp only [hop] at he hm
    have hx : ∀ x ∈ c.args.toList, evO E.glob env loc' ch x = evO E.glob env loc ch x := fun x hx => he ch x (by
      simp only [Op.operands, Call.operands, Array.mem_append]
      exact .inr (by simpa using hx))
    unfold callD at h ⊢
    rw [evAll_congr _ hx]
    split at h
    · exact h.elim
    · rename_i args hargs
      split at h
      · rename_i f hcal
        have := he ch f (by simp [Op.operands, Call.operands, hcal])
        rw [this]; exact h
      · exact h.elim
      · rename_i b hcal
        unfold builtinK at h ⊢
        exact h
  · rename_i hnc
    obtain ⟨hp, h⟩ := onB_out h
    have hgoal : stepK E noCall o env loc' ch M' (fun v _ => K v) := by
      unfold stepK at h ⊢
      split at h
      · rename_i s x y hop
        simp only [hop] at he hl
        have e1 : evT env loc' ch s = evT env loc ch s := evT_congr (hl s (by simp [Op.operands]))
        rw [e1, he _ x (by simp [Op.operands]), he _ y (by simp [Op.operands])]
        exact h
      · rename_i hnp
        have := opK_congr (E := E) hp (fun x hx => he ch x hx) hm h
        exact this
    exact onB_in hp hgoal

end Go.Sx
