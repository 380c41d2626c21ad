/- Sx11: regions, code, loops, functions, calls: what the evaluator says the model does. -/
import Derived.Test.YtmgaphghjhbhhaaSx10
namespace Go.Sx
open Go.RowKit (Below)
set_option linter.unusedVariables false
set_option linter.unusedSimpArgs false

theorem wanted_some {o : Oper} {ops : Array Oper} {a : Act} {j : Nat} {w : Bool} {s : Tmp} (hg : o.guard = some (j, w)) (hd : (ops[j]?).bind (·.dst) = some s) :
    Region.wanted o (yielded ops a.tmps) = true ↔ a.tmps[s]? = some (.bool w) := by
  simp only [Region.wanted, hg, yielded, hd, Option.bind_some]
  cases e : a.tmps[s]? with
  | none => simp
  | some v =>
    cases v <;> simp

theorem pickK_ex {c : Bool} {x y : SV} {K : SV → Prop} (h : pickK c x y K) : ∃ v, K v := by
  unfold pickK at h
  split at h
  · exact ⟨_, h⟩
  · exact ⟨_, (onB_out h).2⟩
  · split at h <;> exact ⟨_, h⟩
theorem binK_ex {P : Program} {op : BinOp} {T : TypeId} {a b : SV} {K : SV → Prop} (h : binK P op T a b K) : ∃ v, K v := by
  cases op <;> simp only [binK] at h
  all_goals (
    split at h
    all_goals first
      | exact h.elim
      | exact ⟨_, (onB_out (onB_out h).2).2⟩
      | exact ⟨_, (onB_out h).2⟩
      | (split at h
         all_goals first
           | exact h.elim
           | exact ⟨_, h⟩))
theorem unK_ex {op : UnOp} {a : SV} {K : SV → Prop} (h : unK op a K) : ∃ v, K v := by
  cases op <;> simp only [unK] at h
  all_goals (
    split at h
    all_goals first
      | exact h.elim
      | exact ⟨_, h⟩)
theorem loadK_ex {P : Program} {T : TypeId} {p : SV} {M : Mem} {K : SV → Prop} (h : loadK P T p M K) : ∃ v, K v := by
  unfold loadK at h
  split at h
  · split at h
    · split at h
      · exact ⟨_, (onB_out h).2⟩
      · exact h.elim
    · exact h.elim
  · exact ⟨_, (onB_out h).2⟩
  · exact h.elim
theorem fieldK_ex {P : Program} {T : TypeId} {f : Nat} {t : SV} {K : SV → Prop} (h : fieldK P T f t K) : ∃ v, K v := by
  obtain ⟨fs, o, ft, a, _, _, _, _, _, hk⟩ := fieldK_out h
  exact ⟨_, hk⟩
theorem fieldAddrK_ex {P : Program} {T : TypeId} {f : Nat} {p : SV} {M : Mem} {K : SV → Prop} (h : fieldAddrK P T f p M K) : ∃ v, K v := by
  unfold fieldAddrK at h
  split at h
  · split at h
    · split at h
      · exact ⟨_, (fieldK_ex h).choose_spec⟩
      · exact h.elim
    · exact h.elim
  · exact ⟨_, (fieldK_ex h).choose_spec⟩
  · exact h.elim

theorem quiet_ex {E : Env} {call : CallT} {o : Oper} {env : List (Tmp × SV)} {loc : List (Tmp × Sl)} {ch : List (Tmp × Bool)} {M : Mem} {K : SV → Mem → Prop}
    (hq : quiet o.op = true) (h : stepK E call o env loc ch M K) : ∃ v, K v M := by
  unfold stepK at h
  split at h
  · split at h
    · split at h
      · split at h
        · exact ⟨_, h⟩
        · exact pickK_ex h
      · split at h
        · exact ⟨_, h⟩
        · exact pickK_ex h
      · exact pickK_ex h
    · exact h.elim
  · unfold opK at h
    split at h
    · split at h
      · exact ⟨_, h⟩
      · exact h.elim
    · rename_i hop; simp [hop, quiet] at hq
    · rename_i hop; simp [hop, quiet] at hq
    · rename_i hop; simp [hop, quiet] at hq
    · rename_i hop; simp [hop, quiet] at hq
    · split at h
      · exact loadK_ex h
      · exact h.elim
    · rename_i hop; simp [hop, quiet] at hq
    · split at h
      · exact ⟨_, h⟩
      · exact ⟨_, h⟩
      · exact ⟨_, h⟩
      · exact ⟨_, h⟩
      · exact h.elim
    · split at h
      · exact binK_ex h
      · exact h.elim
    · split at h
      · exact unK_ex h
      · exact h.elim
    · split at h
      · split at h
        · exact ⟨_, h⟩
        · exact h.elim
      · exact h.elim
    · rename_i hop; simp [hop, quiet] at hq
    · split at h
      · exact fieldAddrK_ex h
      · exact h.elim
    · split at h
      · obtain ⟨v, hv⟩ := fieldK_ex h
        split at hv
        · exact ⟨_, (onB_out hv).2⟩
        · exact hv.elim
      · exact h.elim
    · rename_i hop; simp [hop, quiet] at hq
    · rename_i hop; simp [hop, quiet] at hq
    · split at h
      · split at h
        · exact ⟨_, (onB_out h).2⟩
        · exact h.elim
      · exact h.elim
    · rename_i hop; simp [hop, quiet] at hq
    · exact h.elim

theorem put_size {a : Act} {d : Option Tmp} {v : Value} : (a.put d v).tmps.size = a.tmps.size := by cases d <;> simp [Act.put]
theorem put_defers {a : Act} {d : Option Tmp} {v : Value} : (a.put d v).defers = a.defers := by cases d <;> simp [Act.put]

section
variable {E : Env} {call : CallT} {nt : Nat} {ops : Array Oper} {Q : Exit → Act → World → Prop}

theorem regK_sound (hE : EnvOK E) (hcall : CallOK E call) : ∀ (rest : List Oper) (S : Sig) (loc : List (Tmp × Sl)) (env : List (Tmp × SV)) (M : Mem) (K : List (Tmp × Sl) → Mem → Prop) (a : Act) (w : World),
    regK E call nt ops rest loc env M K → Glob E S → Rep S M w → FrL S env loc a → a.tmps.size = nt → a.defers = [] →
    (∀ S' loc' M' a' w', Ext S S' → Rep S' M' w' → FrL S' env loc' a' → a'.tmps.size = nt → a'.defers = [] → K loc' M' → Q .normal a' w') → wpList E.P ops Q rest a w
  | [], S, loc, env, M, K, a, w, hk, hG, h, hF, hz, hd, hQ => hQ S loc M a w (Ext.refl S) h hF hz hd hk
  | o :: rest, S, loc, env, M, K, a, w, hk, hG, h, hF, hz, hd, hQ => by
    have step : ∀ (S' : Sig) (sv : SV) (sl : Sl) (M' : Mem) (v : Value) (w' : World), Ext S S' → Rep S' M' w' → putL nt loc o.dst sl (fun loc' => regK E call nt ops rest loc' env M' K) →
        (∀ t, o.dst = some t → (∀ x, sl = .v x → R S' x v) ∧ ∀ s w x, sl = .opt s w x → lookL loc s ≠ none ∧ (a.tmps[s]? = some (.bool w) → R S' x v) ∧ (a.tmps[s]? ≠ some (.bool w) → v = undef)) →
        wpList E.P ops Q rest (a.put o.dst v) w' := by
      intro S' sv sl M' v w' hE' h' hp hr
      rcases putL_out hp with ⟨e, hk'⟩ | ⟨t, e, hf, ht, hk'⟩
      · rw [e]
        refine regK_sound hE hcall rest S' loc env M' K _ w' hk' (hG.ext hE') h' ?_ (by simpa [Act.put] using hz) (by simpa [Act.put] using hd) (fun S2 l2 M2 a2 w2 k1 => hQ S2 l2 M2 a2 w2 (hE'.trans k1))
        simpa [Act.put] using hF.ext hE'
      · obtain ⟨r1, r2⟩ := hr t e
        rw [e]
        exact regK_sound hE hcall rest S' _ env M' K _ w' hk' (hG.ext hE') h' ((hF.ext hE').put hf (by rw [hz]; exact ht) r1 r2) (by rw [put_size]; exact hz) (by rw [put_defers]; exact hd) (fun S2 l2 M2 a2 w2 k1 => hQ S2 l2 M2 a2 w2 (hE'.trans k1))
    simp only [regK] at hk
    unfold wpList
    split at hk
    · rename_i hg
      rw [if_pos (by simp [Region.wanted, hg])]
      refine .inl (stepK_sound hE hcall hG h hF (ch := []) (by intro _ _ hm; simp at hm) hk ?_)
      intro S' sv M' v w' e1 e2 hp hr
      refine step S' sv _ M' v w' e1 e2 hp (fun t ht => ⟨fun x e => ?_, fun s w x e => by simp at e⟩)
      simp at e; subst e
      rcases hr with hr | hr
      · simp [ht] at hr
      · exact hr
    · rename_i j wnt hg
      split at hk
      · exact hk.elim
      · rename_i s hs
        split at hk
        · exact hk.elim
        · rename_i hfr
          have hls : lookL loc s ≠ none := by
            intro e
            have : ∀ (l : List (Tmp × Sl)), lookL l s = none → fresh l s = true := by
              intro l
              induction l with
              | nil => intro _; rfl
              | cons x l ih =>
                intro he
                obtain ⟨s', y⟩ := x
                by_cases hq : s' = s
                · subst hq; rw [lookL_cons_eq] at he; simp at he
                · rw [lookL_cons_ne hq] at he
                  have : Nat.beq s' s = false := by
                    cases e : Nat.beq s' s with
                    | false => rfl
                    | true => exact (hq (Nat.eq_of_beq_eq_true e)).elim
                  simp only [fresh, this, ih he]; rfl
            rw [this loc e] at hfr; simp at hfr
          by_cases hw : Region.wanted o (yielded ops a.tmps) = true
          · rw [if_pos hw]
            have hb := (wanted_some hg hs).1 hw
            have hc : ChH ((s, wnt) :: chain loc 8 s) a := ChH.cons hb (chain_holds hF 8 s wnt hb)
            have nx : ∀ K', (∀ sv M', K' sv M' → putL nt loc o.dst (.opt s wnt sv) (fun loc' => regK E call nt ops rest loc' env M' K)) → Nxt S o a K' (wpList E.P ops Q rest) := by
              intro K' hK' S' sv M' v w' e1 e2 hp hr
              refine step S' sv _ M' v w' e1 e2 (hK' _ _ hp) (fun t ht => ⟨fun x e => by simp at e, fun s2 w2 x e => ?_⟩)
              simp at e; obtain ⟨rfl, rfl, rfl⟩ := e
              refine ⟨hls, fun _ => ?_, fun hne => (hne hb).elim⟩
              rcases hr with hr | hr
              · simp [ht] at hr
              · exact hr
            split at hk
            · exact .inl (stepK_sound hE hcall hG h hF hc hk (nx _ fun _ _ h => h))
            · split at hk
              · exact hk.elim
              · exact .inl (stepK_sound hE hcall hG h hF hc hk (nx _ fun _ _ h => h))
              · rename_i hgb
                have := guardB_true hF _ _ hgb hc
                simp at this
          · rw [if_neg hw]
            have hb : a.tmps[s]? ≠ some (.bool wnt) := fun e => hw ((wanted_some hg hs).2 e)
            have go : ∀ sv, putL nt loc o.dst (.opt s wnt sv) (fun loc' => regK E call nt ops rest loc' env M K) → wpList E.P ops Q rest (a.put o.dst undef) w := by
              intro sv hp
              refine step S sv _ M undef w (Ext.refl S) h hp (fun t ht => ⟨fun x e => by simp at e, fun s2 w2 x e => ?_⟩)
              simp at e; obtain ⟨rfl, rfl, rfl⟩ := e
              exact ⟨hls, fun e => (hb e).elim, fun _ => rfl⟩
            split at hk
            · rename_i hq
              obtain ⟨v, hv⟩ := quiet_ex hq hk
              exact go v hv
            · split at hk
              · exact hk.elim
              · rename_i hgb
                exact (hb (guardB_holds hF _ hgb s wnt (by simp))).elim
              · exact go _ hk
end

end Go.Sx
