/- Sx12: code, loops, functions, calls: what the evaluator says the model does. -/
import Derived.Test.YtmgaphghjhbhhaaSxD5
namespace Go.Sx
open Go.RowKit (Below)
set_option linter.unusedVariables false
set_option linter.unusedSimpArgs false

theorem lookE_cons_ne {l : List (Tmp × SV)} {t d : Tmp} {x : SV} (h : d ≠ t) : lookE ((d, x) :: l) t = lookE l t := by
  have : Nat.beq d t = false := by
    cases e : Nat.beq d t with
    | false => rfl
    | true => exact (h (Nat.eq_of_beq_eq_true e)).elim
  simp [lookE, this]
theorem lookE_cons_eq {l : List (Tmp × SV)} {d : Tmp} {x : SV} : lookE ((d, x) :: l) d = some x := by
  have : Nat.beq d d = true := Nat.beq_refl d
  simp [lookE, this]

theorem flush_look {env : List (Tmp × SV)} {t : Tmp} {x : SV} : ∀ (loc : List (Tmp × Sl)), noOpt loc env = true → lookE (flush loc env) t = some x →
    lookL loc t = some (.v x) ∨ (lookL loc t = none ∧ lookE env t = some x)
  | [], hn, h => .inr ⟨rfl, h⟩
  | (s, .v y) :: l, hn, h => by
    simp only [flush] at h
    simp only [noOpt] at hn
    by_cases e : s = t
    · subst e
      rw [lookE_cons_eq] at h; simp at h; subst h
      exact .inl lookL_cons_eq
    · rw [lookE_cons_ne e] at h
      rw [lookL_cons_ne e]
      exact flush_look l hn h
  | (s, .opt u w y) :: l, hn, h => by
    simp only [flush] at h
    simp [noOpt] at hn
    by_cases e : s = t
    · subst e
      rw [h] at hn; simp at hn
    · rw [lookL_cons_ne e]
      exact flush_look l hn.2 h

theorem FrL.flush {S : Sig} {env : List (Tmp × SV)} {loc : List (Tmp × Sl)} {a : Act} (hF : FrL S env loc a) (hn : noOpt loc env = true) : FrE S (Sx.flush loc env) a := by
  intro t x h
  rcases flush_look loc hn h with h | ⟨h1, h2⟩
  · exact hF.v t x h
  · exact hF.e t h1 x h2

theorem FrE.loc {S : Sig} {env : List (Tmp × SV)} {a : Act} (h : FrE S env a) : FrL S env [] a :=
  ⟨fun t x e => by simp [lookL] at e, fun t s w x e => by simp [lookL] at e, fun t s w x e => by simp [lookL] at e, fun t s w x e => by simp [lookL] at e, fun t _ x e => h t x e⟩
theorem FrE.ext {S S' : Sig} {env : List (Tmp × SV)} {a : Act} (h : FrE S env a) (hE : Ext S S') : FrE S' env a := fun t x e => R_ext hE (h t x e)

/-- All that is held of a state: its memory, its frame. -/
structure Ok (S : Sig) (nt : Nat) (st : St) (a : Act) (w : World) : Prop where
  rep : Rep S st.mem w
  fr : FrE S st.env a
  sz : a.tmps.size = nt
  df : a.defers = []

def Post (S : Sig) (nt : Nat) (K : Kont) (Q : Exit → Act → World → Prop) : Prop :=
  ∀ e S' st' a' w', Ext S S' → Ok S' nt st' a' w' → K e st' → Q e a' w'

theorem Post.ext {S S' : Sig} {nt : Nat} {K : Kont} {Q : Exit → Act → World → Prop} (h : Post S nt K Q) (hE : Ext S S') : Post S' nt K Q :=
  fun e S2 st a w h1 h2 h3 => h e S2 st a w (hE.trans h1) h2 h3

def Sound (E : Env) (nt : Nat) (c : Code) (body : St → Kont → Prop) : Prop :=
  ∀ (S : Sig) (st : St) (K : Kont) (Q : Exit → Act → World → Prop) (a : Act) (w : World), body st K → Glob E S → Ok S nt st a w → Post S nt K Q → c.wp E.P Q a w

theorem rounds_sound {E : Env} {nt : Nat} {c : Code} {body : St → Kont → Prop} (hb : Sound E nt c body) {K : Kont} {Q : Exit → Act → World → Prop} : ∀ (n : Nat) (S : Sig) (st : St) (a : Act) (w : World),
    rounds body K n st → Glob E S → Ok S nt st a w → Post S nt K Q → Code.rounds E.P c Q n a w
  | 0, S, st, a, w, h, hG, ho, hP => h.elim
  | n + 1, S, st, a, w, h, hG, ho, hP => by
    simp only [rounds] at h
    rw [rounds_succ]
    refine hb S st _ _ a w h hG ho ?_
    intro e S' st' a' w' hE ho' hk
    cases e <;> first
      | exact rounds_sound hb n S' st' a' w' hk (hG.ext hE) ho' (hP.ext hE)
      | exact hP _ S' st' a' w' hE ho' hk

theorem keepE_look {env : List (Tmp × SV)} {t : Tmp} {x : SV} : ∀ (l : List Tmp) (e : List (Tmp × SV)), keepE env l = some e → lookE e t = some x → lookE env t = some x
  | [], e, h, hl => by simp [keepE] at h; subst h; simp [lookE] at hl
  | s :: l, e, h, hl => by
    simp only [keepE] at h
    split at h
    · rename_i v r hv hr
      simp at h; subst h
      by_cases e : s = t
      · subst e; rw [lookE_cons_eq] at hl; simp at hl; subst hl; exact hv
      · rw [lookE_cons_ne e] at hl; exact keepE_look l r hr hl
    · simp at h
theorem clE_look {n : Nat} {t : Tmp} {x : SV} : ∀ (e : List (Tmp × SV)), clE n e = true → lookE e t = some x → x.cl n = true
  | [], h, hl => by simp [lookE] at hl
  | (s, v) :: l, h, hl => by
    simp [clE] at h
    by_cases e : s = t
    · subst e; rw [lookE_cons_eq] at hl; simp at hl; subst hl; exact h.1
    · rw [lookE_cons_ne e] at hl; exact clE_look l h.2 hl
theorem clAll_get {n : Nat} {t : SV} : ∀ (l : List SV) (i : Nat), clAll n l = true → l[i]? = some t → t.cl n = true
  | [], i, h, hi => by simp at hi
  | v :: l, 0, h, hi => by simp [clAll] at h; simp at hi; subst hi; exact h.1
  | v :: l, i + 1, h, hi => by simp [clAll] at h; exact clAll_get l i h.2 (by simpa using hi)

theorem norm_sound {S0 S : Sig} {nt : Nat} {keep : List Tmp} {st s : St} {a : Act} {w : World} (hE : Ext S0 S) (ho : Ok S nt st a w) (hn : normSt keep S0.sh.length st = some s) (hle : S0.sh.length ≤ S.sh.length) :
    ∃ S', Ext S0 S' ∧ Ok S' nt s a w ∧ S'.sh.length = S0.sh.length := by
  unfold normSt at hn
  split at hn
  · rename_i e he
    split at hn
    · rename_i hc
      simp at hn hc; subst hn
      obtain ⟨c1, c2⟩ := hc
      let S' : Sig := { S with sh := S.sh.take S0.sh.length }
      have hT : Tr S0.sh.length S S' := ⟨fun _ _ h => h, fun j hj t e => ⟨by show (S.sh.take _)[j]? = _; rw [List.getElem?_take, if_pos hj]; exact e, rfl⟩⟩
      have hlen : S.sh.length = st.mem.length := by rw [ho.rep.sh]; simp
      refine ⟨S', ⟨hE.W, hE.F, hE.g, fun j t e => ?_⟩, ⟨⟨⟨ho.rep.base.size, ho.rep.base.same, ho.rep.base.g⟩, ?_, ho.rep.size, ho.rep.kept, ho.rep.os, ho.rep.tape, ho.rep.out, ?_, ?_, ?_⟩, ?_, ho.sz, ho.df⟩, ?_⟩
      · have hj : j < S0.sh.length := by
          rcases Nat.lt_or_ge j S0.sh.length with h | h
          · exact h
          · simp [List.getElem?_eq_none h] at e
        obtain ⟨e1, e2⟩ := hE.sh j t e
        exact ⟨(hT.sh j hj t e1).1, e2⟩
      · show S.sh.take _ = _; rw [ho.rep.sh]; simp
      · intro i j hi hj e
        simp at hi hj
        exact ho.rep.inj i j (by omega) (by omega) e
      · intro i hi
        simp at hi
        exact ho.rep.new i (by omega)
      · intro i t hi
        rw [List.getElem?_take] at hi
        split at hi
        · obtain ⟨cs, el, h1, h2⟩ := ho.rep.blk i t hi
          refine ⟨cs, el, h1, Rf_tr hT t _ (clAll_get _ i c2 (by rw [List.getElem?_take, if_pos ‹_›]; exact hi)) h2⟩
        · simp at hi
      · intro t x hl
        exact R_tr hT (clE_look e c1 hl) (ho.fr t x (keepE_look keep e he hl))
      · show (S.sh.take _).length = _; simp; omega
    · simp at hn
  · simp at hn

theorem Ext.len {S S' : Sig} (h : Ext S S') : S.sh.length ≤ S'.sh.length := by
  rcases Nat.eq_zero_or_pos S.sh.length with e | e
  · omega
  · have hl : S.sh.length - 1 < S.sh.length := by omega
    obtain ⟨h1, _⟩ := h.sh (S.sh.length - 1) _ (List.getElem?_eq_getElem hl)
    rcases Nat.lt_or_ge (S.sh.length - 1) S'.sh.length with h | h
    · omega
    · simp [List.getElem?_eq_none h] at h1

theorem roundsN_sound {E : Env} {nt : Nat} {c : Code} {body : St → Kont → Prop} (hb : Sound E nt c body) {K : Kont} {Q : Exit → Act → World → Prop} {keep : List Tmp} {S0 : Sig} (hP : Post S0 nt K Q) (hG : Glob E S0) :
    ∀ (n : Nat) (S : Sig) (st : St) (a : Act) (w : World), roundsN keep S0.sh.length body K n st → Ext S0 S → Ok S nt st a w → Code.rounds E.P c Q n a w
  | 0, S, st, a, w, h, hE, ho => h.elim
  | n + 1, S, st, a, w, h, hE, ho => by
    simp only [roundsN] at h
    rw [rounds_succ]
    refine hb S st _ _ a w h (hG.ext hE) ho ?_
    intro e S' st' a' w' hE' ho' hk
    split at hk
    · rename_i s hs
      obtain ⟨S2, e1, e2, _⟩ := norm_sound (hE.trans hE') ho' hs (hE.trans hE').len
      cases e with
      | normal => exact roundsN_sound hb hP hG n S2 s a' w' hk e1 e2
      | _ => exact hP _ S2 s a' w' e1 e2 hk
    · exact hk.elim

/-- A loop's contract, in the model's words. -/
def LoopSem (E : Env) (nt : Nat) (c : Code) (l : LCon) : Prop :=
  ∀ (S : Sig) (s : St) (K : Kont) (Q : Exit → Act → World → Prop) (a : Act) (w : World), l.pt s K → Glob E S → Ok S nt s a w → Post S nt K Q → (Code.loop c).wp E.P Q a w

theorem loop_sem {E : Env} {nt : Nat} {c : Code} {body : St → Kont → Prop} (hb : Sound E nt c body) {l : LCon} (h : ∀ s K, l.pt s K → ∃ n, roundsN l.keep s.mem.length body K n s) : LoopSem E nt c l := by
  intro S s K Q a w hp hG ho hP
  obtain ⟨n, hn⟩ := h s K hp
  have hlen : S.sh.length = s.mem.length := by rw [ho.rep.sh]; simp
  rw [← hlen] at hn
  exact wp_loop_rounds n (roundsN_sound hb hP hG n S s a w hn (Ext.refl S) ho)

def loopsOf : Code → List (Nat × Code)
  | .seq a b => loopsOf a ++ loopsOf b
  | .cond _ a b => loopsOf a ++ loopsOf b
  | .block _ c => loopsOf c
  | .loop c => (firstId c, c) :: loopsOf c
  | _ => []

theorem execC_sound {E : Env} {call : CallT} {fid : FuncId} {nt : Nat} (hE : EnvOK E) (hgam : GamOK E) (hcall : CallOK E call) : ∀ (c : Code), (∀ x ∈ loopsOf c, ∀ l, E.loop fid x.1 = some l → LoopSem E nt x.2 l) → Sound E nt c (execC E call fid nt c)
  | .skip => fun _ S st K Q a w hk hG ho hP => wp_skip (hP _ S st a w (Ext.refl S) ho hk)
  | .region id ops draw => fun _ S st K Q a w hk hG ho hP => by
    simp only [execC] at hk
    split at hk
    · obtain ⟨hdr, hk⟩ := onB_out hk
      refine wp_region_any hE.mixed (regDK_sound hE hgam hdr hk hG (ho.rep.drew) ho.fr.loc ho.sz ho.df ?_)
      intro S' loc' M' a' w' e1 e2 e3 e4 e5 hk'
      obtain ⟨h1, h2⟩ := onB_out hk'
      exact hP _ S' _ a' w' e1 ⟨e2, e3.flush h1, e4, e5⟩ h2
    · refine wp_region_list (regK_sound hE hcall ops.toList S [] st.env st.mem _ a w hk hG ho.rep ho.fr.loc ho.sz ho.df ?_)
      intro S' loc' M' a' w' e1 e2 e3 e4 e5 hk'
      obtain ⟨h1, h2⟩ := onB_out hk'
      exact hP _ S' _ a' w' e1 ⟨e2, e3.flush h1, e4, e5⟩ h2
  | .seq x y => fun hl S st K Q a w hk hG ho hP => by
    simp only [execC] at hk
    refine wp_seq (execC_sound hE hgam hcall x (fun z hz => hl z (by simp [loopsOf, hz])) S st _ _ a w hk hG ho ?_)
    intro e S' st' a' w' hE' ho' hk'
    cases e <;> first
      | exact execC_sound hE hgam hcall y (fun z hz => hl z (by simp [loopsOf, hz])) S' st' K Q a' w' hk' (hG.ext hE') ho' (hP.ext hE')
      | exact hP _ S' st' a' w' hE' ho' hk'
  | .cond c x y => fun hl S st K Q a w hk hG ho hP => by
    simp only [execC] at hk
    split at hk
    · rename_i hc
      exact wp_cond_true (R_b (evO_sound hG ho.fr.loc (by intro _ _ hm; simp at hm) hc)) (execC_sound hE hgam hcall x (fun z hz => hl z (by simp [loopsOf, hz])) S st K Q a w hk hG ho hP)
    · rename_i hc
      exact wp_cond_false (R_b (evO_sound hG ho.fr.loc (by intro _ _ hm; simp at hm) hc)) (execC_sound hE hgam hcall y (fun z hz => hl z (by simp [loopsOf, hz])) S st K Q a w hk hG ho hP)
    · exact hk.elim
  | .block id c => fun hl S st K Q a w hk hG ho hP => by
    simp only [execC] at hk
    refine wp_block (execC_sound hE hgam hcall c (fun z hz => hl z (by simpa [loopsOf] using hz)) S st _ _ a w hk hG ho ?_)
    intro e S' st' a' w' hE' ho' hk'
    cases e with
    | exit j =>
      simp only at hk'
      simp only [Exit.inBlock]
      split at hk'
      · rename_i hj
        rw [if_pos (Nat.eq_of_beq_eq_true hj)]
        exact hP _ S' st' a' w' hE' ho' hk'
      · rename_i hj
        rw [if_neg (fun e => by subst e; simp at hj)]
        exact hP _ S' st' a' w' hE' ho' hk'
    | _ => exact hP _ S' st' a' w' hE' ho' hk'
  | .loop c => fun hl S st K Q a w hk hG ho hP => by
    simp only [execC] at hk
    split at hk
    · exact wp_loop_rounds 40 (rounds_sound (execC_sound hE hgam hcall c (fun z hz => hl z (by simp [loopsOf, hz]))) 40 S st a w hk hG ho hP)
    · rename_i l hlo
      have hlen : S.sh.length = st.mem.length := by rw [ho.rep.sh]; simp
      split at hk
      · rename_i s hs
        rw [← hlen] at hs
        obtain ⟨S2, e1, e2, e3⟩ := norm_sound (Ext.refl S) ho hs (Nat.le_refl _)
        exact hl (firstId c, c) (by simp [loopsOf]) l hlo S2 s K Q a w hk (hG.ext e1) e2 (hP.ext e1)
      · exact hk.elim
  | .exit id => fun _ S st K Q a w hk hG ho hP => wp_exit (hP _ S st a w (Ext.refl S) ho hk)
  | .label l => fun _ S st K Q a w hk hG ho hP => wp_label (hP _ S st a w (Ext.refl S) ho hk)
  | .ret => fun _ S st K Q a w hk hG ho hP => wp_ret (hP _ S st a w (Ext.refl S) ho hk)
  | .rangeFunc .. => fun _ S st K Q a w hk hG ho hP => by simp only [execC] at hk
  | .scope _ => fun _ S st K Q a w hk hG ho hP => by simp only [execC] at hk
  | .goto _ => fun _ S st K Q a w hk hG ho hP => by simp only [execC] at hk
  | .refuse _ => fun _ S st K Q a w hk hG ho hP => by simp only [execC] at hk

end Go.Sx
