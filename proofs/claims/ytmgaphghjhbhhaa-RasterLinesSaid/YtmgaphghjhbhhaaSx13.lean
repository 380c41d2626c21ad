/- Sx13: functions, calls, contracts. -/
import Derived.Test.YtmgaphghjhbhhaaSx12
import Derived.Test.YtmgaphghjhbhhaaSxC
namespace Go.Sx
open Go.RowKit (Below)
set_option linter.unusedVariables false
set_option linter.unusedSimpArgs false

theorem initE_look {t : Nat} {v : SV} : ∀ (args : List SV) (k : Nat), lookE (initE args k) t = some v → ∃ i, t = k + i ∧ args[i]? = some v
  | [], k, h => by simp [initE, lookE] at h
  | x :: l, k, h => by
    simp only [initE] at h
    by_cases e : k = t
    · subst e; rw [lookE_cons_eq] at h; simp at h; subst h; exact ⟨0, by simp, by simp⟩
    · rw [lookE_cons_ne e] at h
      obtain ⟨i, e1, e2⟩ := initE_look l (k + 1) h
      exact ⟨i + 1, by omega, by simpa using e2⟩

theorem Rt_of_All2 {S : Sig} : ∀ {l : List SV} {m : List Value}, All2 (R1 S) l m → Rt S (SVs.ofList l) m
  | _, _, .nil => rfl
  | _, _, .cons h1 h2 => ⟨_, _, rfl, h1, Rt_of_All2 h2⟩

def resF (a : Act) : ResultVar → Sem Value
  | .tmp t => pure (a.tmps.getD t undef)
  | .cell p t => do loadVar t (← asAddr (a.tmps.getD p undef))

theorem results_eq (fn : Func) (a : Act) : results fn a.tmps = (do
    let vs ← fn.results.mapM (resF a)
    pure (if h : vs.size = 1 then vs[0] else .tuple vs)) := by
  unfold results
  congr 1

theorem resV_sound {E : Env} {S : Sig} {M : Mem} {w : World} {env : List (Tmp × SV)} {a : Act} (h : Rep S M w) (hF : FrE S env a) : ∀ (l : List ResultVar) (K : List SV → Prop), resV E.P env M l K →
    ∃ vs xs, K vs ∧ (l.mapM (resF a)).run E.P w = .ok xs w ∧ All2 (R1 S) vs xs
  | [], K, hk => ⟨[], [], hk, by simp, .nil⟩
  | .tmp t :: l, K, hk => by
    simp only [resV] at hk
    split at hk
    · rename_i v hv
      obtain ⟨h1, hk2⟩ := onB_out hk
      obtain ⟨vs, xs, k1, k2, k3⟩ := resV_sound h hF l _ hk2
      simp at h1
      refine ⟨_, _, k1, ?_, .cons (R1_of_R (hF t v hv) h1) k3⟩
      simp [List.mapM_cons, resF, k2, tv]
    · exact hk.elim
  | .cell p T :: l, K, hk => by
    simp only [resV] at hk
    split at hk
    · rename_i b q hv
      obtain ⟨t, v, ad, k1, k2, k3, k4⟩ := h.loadK (hF p _ hv) hk
      obtain ⟨vs, xs, j1, j2, j3⟩ := resV_sound h hF l _ k1
      refine ⟨_, _, j1, ?_, .cons k4 j3⟩
      have k2' : a.tmps.getD p undef = .pointer (some ad) := k2
      simp [List.mapM_cons, resF, k2', asAddr, k3, j2]
    · exact hk.elim

theorem retK_sound {E : Env} {S : Sig} {nt : Nat} {st : St} {a : Act} {w : World} {fn : Func} {K : SV → Mem → Prop} (ho : Ok S nt st a w) (hk : retK E.P fn.results.toList st K) :
    ∃ sv v, K sv st.mem ∧ (results fn a.tmps).run E.P w = .ok v w ∧ R S sv v := by
  unfold retK at hk
  obtain ⟨vs, xs, k1, k2, k3⟩ := resV_sound ho.rep ho.fr _ _ hk
  rw [results_eq]
  simp only [Array.mapM_eq_mapM_toList, Sem.run_bind, Sem.run_map, k2, Result.andThen_ok, Sem.run_pure]
  have hlen := k3.len
  split at k1
  · rename_i v
    cases k3 with
    | cons h1 h2 =>
      cases h2
      exact ⟨_, _, k1, by simp, R_of_R1 h1⟩
  · rename_i hne
    refine ⟨_, .tuple xs.toArray, k1, ?_, ?_⟩
    · have : xs.toArray.size ≠ 1 := by
        intro e
        have : vs.length = 1 := by rw [hlen]; simpa using e
        obtain ⟨v, rfl⟩ := List.length_eq_one_iff.1 this
        exact hne v rfl
      rw [dif_neg this]
    · exact ⟨xs.toArray, rfl, by simpa using Rt_of_All2 k3⟩

/-- The loops' contracts hold. -/
def LoopsOK (E : Env) : Prop := ∀ (f : FuncId) (fn : Func) (c : Code), E.P.funcs[f]? = some fn → fn.body = some c → ∀ x ∈ loopsOf c, ∀ l, E.loop f x.1 = some l → LoopSem E fn.ntmps x.2 l

theorem bodyK_sound {E : Env} {call : CallT} (hE : EnvOK E) (hgam : GamOK E) (hlo : LoopsOK E) (hcall : CallOK E call) {f : FuncId} {fn : Func} {args : List SV} {M : Mem} {K : SV → Mem → Prop} (hf : E.P.funcs[f]? = some fn) (hk : bodyK E call f fn args M K)
    {S : Sig} {w : World} {vs : Array Value} (hG : Glob E S) (h : Rep S M w) (hr : All2 (R S) args vs.toList) : CallsTo E f vs S w K := by
  unfold bodyK at hk
  split at hk
  · exact hk.elim
  · rename_i c hb
    obtain ⟨hz, hk2⟩ := onB_out hk
    have hlen : args.length = vs.size := by simpa using hr.len
    have hz' : vs.size ≤ fn.ntmps := by rw [← hlen]; exact Nat.le_of_ble_eq_true hz
    unfold CallsTo
    refine calls_of_wp hf hb (execC_sound hE hgam hcall c (hlo f fn c hf hb) S ⟨initE args 0, M⟩ _ _ _ w hk2 hG ⟨h, ?_, ?_, rfl⟩ ?_)
    · intro t x hl
      obtain ⟨i, e, hi⟩ := initE_look args 0 hl
      rw [Nat.zero_add] at e
      subst e
      obtain ⟨y, hy, hx⟩ := hr.get t x hi
      have : tv { tmps := vs ++ Array.replicate (fn.ntmps - vs.size) undef, defers := [] } t = y := by
        apply tv_of_some
        have hlt : t < vs.size := by
          rw [← hlen]
          rcases Nat.lt_or_ge t args.length with h | h
          · exact h
          · simp [List.getElem?_eq_none h] at hi
        show (vs ++ _)[t]? = some y
        rw [Array.getElem?_append_left hlt, ← Array.getElem?_toList]
        exact hy
      rw [this]; exact hx
    · simp; exact Nat.add_sub_cancel' hz'
    · intro e S' st' a' w' hE' ho' hk'
      have fin : retK E.P fn.results.toList st' K → a'.defers = [] ∧ ∃ v, (results fn a'.tmps).run E.P w' = .ok v w' ∧ ∃ S' sv M' v', Ext S S' ∧ Rep S' M' w' ∧ K sv M' ∧ Ending.returned v = .returned v' ∧ R S' sv v' := by
        intro hk
        obtain ⟨sv, v, k1, k2, k3⟩ := retK_sound (fn := fn) ho' hk
        exact ⟨ho'.df, v, k2, S', sv, _, v, hE', ho'.rep, k1, rfl, k3⟩
      cases e <;> first
        | exact fin hk'
        | exact hk'.elim

theorem callN_sound {E : Env} (hE : EnvOK E) (hg : GamOK E) (hlo : LoopsOK E) : ∀ n, CallOK E (callN E n)
  | 0 => fun f args M K hk => hk.elim
  | n + 1 => fun f args M K hk hf S w vs hG h hr => by
    simp only [callN] at hk
    split at hk
    · rename_i c hc
      exact conK_sound (hg f c hc) hk hG h hr
    · split at hk
      · exact hk.elim
      · rename_i fn hfn
        exact bodyK_sound hE hg hlo (callN_sound hE hg hlo n) hfn hk hG h hr

/-! ### Contracts out of bodies -/
theorem con_pure {E : Env} (hE : EnvOK E) (hg : GamOK E) (hlo : LoopsOK E) (n : Nat) {f : FuncId} {fn : Func} (hfn : E.P.funcs[f]? = some fn) {pre : List SV → Prop} {f' : List SV → Option SV}
    (h : ∀ args r, f' args = some r → pre args → bodyK E (callN E n) f fn args [] (fun r' _ => onB (r'.cl 0) (r' = r))) : ConOK E f (.pure pre f') := by
  intro args r hf hp hc S w vs hB hF hg' hsh hG hr
  have hrep : Rep S [] w := by
    subst hF
    exact ⟨hB, by simp [hsh], Nat.le_refl _, fun _ _ _ => rfl, rfl, rfl, rfl, fun i j hi => by simp at hi, fun i hi => by simp at hi, fun i t hi => by simp at hi⟩
  refine (bodyK_sound hE hg hlo (callN_sound hE hg hlo n) hfn (h args r hf hp) hG hrep hr).mono ?_
  rintro e w' ⟨S', sv, M', v, k1, k2, k3, k4, k5⟩
  obtain ⟨c1, c2⟩ := onB_out k3
  subst c2
  refine ⟨v, k4, c1, R_tr ⟨fun a ds ho => ?_, fun j hj => by omega⟩ c1 k5, ?_⟩
  · unfold Old at *; rw [k1.W] at ho; exact ho
  · subst hF
    refine ⟨?_, ?_, ?_, ?_, ?_⟩
    · rw [k2.os, k1.F]
    · rw [k2.tape, k1.F]
    · rw [k2.out, k1.F]
    · have := k2.size; rw [k1.F] at this; exact this
    · intro k hk _
      have := k2.kept k (by rw [k1.F]; exact hk) (by rw [k1.g, hg']; simp)
      rw [k1.F] at this; exact this

theorem con_mth {E : Env} (hE : EnvOK E) (hg : GamOK E) (hlo : LoopsOK E) (n : Nat) {f : FuncId} {fn : Func} (hfn : E.P.funcs[f]? = some fn) {pt : SV → List SV → (SV → SV → Prop) → Prop}
    (h : ∀ t args K, pt t args K → bodyK E (callN E n) f fn (.ptr 0 [] :: args) [t] (fun r M => match M with
      | t' :: _ => onB (r.cl 0 && (t'.cl 0)) (K r t')
      | [] => False)) : ConOK E f (.mth pt) := by
  intro t args K hp hc hca S w b cs el vs hB hF hg' hsh hρ hb hrf hG hr
  have hblt : b < w.heap.size := (Array.getElem?_eq_some_iff.1 hb).1
  have hrep : Rep S [t] w := by
    subst hF
    refine ⟨hB, by simp [hsh], Nat.le_refl _, fun _ _ _ => rfl, rfl, rfl, rfl, fun i j hi hj _ => by simp at hi hj; omega, fun i hi => ?_, fun i u hi => ?_⟩
    · simp at hi; subst hi; left; rw [hg', hρ]
    · cases i with
      | zero => simp at hi; subst hi; exact ⟨cs, el, by rw [hρ]; exact hb, hrf⟩
      | succ i => simp at hi
  have hptr : R S (.ptr 0 []) (.pointer (some ⟨b, 0, none⟩)) := by
    show Rf S _ _
    simp only [Rf]
    exact ⟨t.shp, 0, t.shp, by simp [hsh], rfl, by rw [hρ]⟩
  refine (bodyK_sound hE hg hlo (callN_sound hE hg hlo n) hfn (h t args K hp) hG hrep (vs := (.pointer (some ⟨b, 0, none⟩) :: vs).toArray) (.cons hptr hr)).mono ?_
  rintro e w' ⟨S', sv, M', v, k1, k2, k3, k4, k5⟩
  split at k3
  · rename_i M' t' rest
    obtain ⟨c1, c2⟩ := onB_out k3
    simp at c1
    have hS0 := k1.sh 0 t.shp (by simp [hsh])
    have hsh' : t'.shp = t.shp := by
      have := hS0.1
      rw [k2.sh] at this
      simpa using this
    obtain ⟨cs', el', z1, z2⟩ := k2.blk 0 t' rfl
    have hρ' : S'.ρ 0 = b := hS0.2.trans hρ
    rw [hρ'] at z1
    have hT : Tr 0 S' S := ⟨fun a ds ho => by unfold Old at *; rw [k1.W] at ho; exact ho, fun j hj => by omega⟩
    refine ⟨sv, t', v, cs', c2, k4, c1.1, R_tr hT c1.1 k5, c1.2, hsh', ?_, Rf_tr hT t' _ c1.2 z2, ?_⟩
    · exact ⟨el', z1⟩
    · subst hF
      refine ⟨?_, ?_, ?_, ?_, ?_⟩
      · rw [k2.os, k1.F]
      · rw [k2.tape, k1.F]
      · rw [k2.out, k1.F]
      · have := k2.size; rw [k1.F] at this; exact this
      · intro k hk hne
        have := k2.kept k (by rw [k1.F]; exact hk) (by rw [k1.g, hg']; exact hne)
        rw [k1.F] at this; exact this
  · exact k3.elim

end Go.Sx
