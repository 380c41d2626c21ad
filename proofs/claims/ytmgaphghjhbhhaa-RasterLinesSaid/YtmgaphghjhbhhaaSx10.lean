/- Sx10: frames, guards, regions. -/
import Derived.Test.YtmgaphghjhbhhaaSx9
namespace Go.Sx
open Go.RowKit (Below)
set_option linter.unusedVariables false
set_option linter.unusedSimpArgs false

def tv (a : Act) (t : Tmp) : Value := a.tmps.getD t undef

theorem undef_nb (x : Bool) : undef ≠ .bool x := by intro h; simp [undef] at h

theorem tv_some {a : Act} {t : Tmp} {x : Bool} (h : tv a t = .bool x) : a.tmps[t]? = some (.bool x) := by
  unfold tv at h
  rw [Array.getD_eq_getD_getElem?] at h
  cases e : a.tmps[t]? with
  | none => simp [e] at h; exact (undef_nb _ h).elim
  | some v => simp [e] at h; rw [h]
theorem tv_of_some {a : Act} {t : Tmp} {v : Value} (h : a.tmps[t]? = some v) : tv a t = v := by
  unfold tv; rw [Array.getD_eq_getD_getElem?, h]; rfl

def FrE (S : Sig) (env : List (Tmp × SV)) (a : Act) : Prop := ∀ t x, lookE env t = some x → R S x (tv a t)

structure FrL (S : Sig) (env : List (Tmp × SV)) (loc : List (Tmp × Sl)) (a : Act) : Prop where
  v : ∀ t x, lookL loc t = some (.v x) → R S x (tv a t)
  o1 : ∀ t s w x, lookL loc t = some (.opt s w x) → a.tmps[s]? = some (.bool w) → R S x (tv a t)
  o2 : ∀ t s w x, lookL loc t = some (.opt s w x) → a.tmps[s]? ≠ some (.bool w) → tv a t = undef
  o3 : ∀ t s w x, lookL loc t = some (.opt s w x) → lookL loc s ≠ none
  e : ∀ t, lookL loc t = none → ∀ x, lookE env t = some x → R S x (tv a t)

def ChH (ch : List (Tmp × Bool)) (a : Act) : Prop := ∀ s w, (s, w) ∈ ch → a.tmps[s]? = some (.bool w)

theorem inCh_mem : ∀ {ch : List (Tmp × Bool)} {s : Tmp} {w : Bool}, inCh ch s w = true → (s, w) ∈ ch
  | [], _, _, h => by simp [inCh] at h
  | (s', w') :: l, s, w, h => by
    simp [inCh] at h
    rcases h with h | h
    · obtain ⟨rfl, rfl⟩ := h; simp
    · exact List.mem_cons_of_mem _ (inCh_mem h)

section
variable {E : Env} {S : Sig} {env : List (Tmp × SV)} {loc : List (Tmp × Sl)} {a : Act}

theorem evT_sound (hF : FrL S env loc a) {ch : List (Tmp × Bool)} (hc : ChH ch a) {t : Tmp} {x : SV} (h : evT env loc ch t = some x) : R S x (tv a t) := by
  unfold evT at h
  split at h
  · rename_i s hl
    unfold slotV at h
    split at h
    · simp at h; subst h; exact hF.v t _ hl
    · split at h
      · rename_i hi
        simp at h; subst h
        exact hF.o1 t _ _ _ hl (hc _ _ (inCh_mem hi))
      · simp at h
  · rename_i hl
    exact hF.e t hl x h

theorem ofConst_R {v : Value} {x : SV} (h : ofConst v = some x) : R S x v := by
  unfold ofConst at h
  split at h <;> simp at h <;> subst h <;> show Rf S _ _ <;> simp [Rf]

theorem evO_sound (hG : Glob E S) (hF : FrL S env loc a) {ch : List (Tmp × Bool)} (hc : ChH ch a) {o : Operand} {x : SV} (h : evO E.glob env loc ch o = some x) : R S x (a.eval o) := by
  unfold evO at h
  split at h
  · exact evT_sound hF hc h
  · exact ofConst_R h
  · rename_i g
    split at h
    · rename_i t ht
      simp at h; subst h
      obtain ⟨ds, h0, h1, h2⟩ := hG g t ht
      exact R_cptr_mk h0 h1 h2
    · simp at h
  · simp at h; subst h
    show Rf S _ _; simp [Rf, Act.eval]

/-- If a guard holds, those ahead of it do. -/
theorem chain_holds (hF : FrL S env loc a) : ∀ (n : Nat) (s : Tmp) (w : Bool), a.tmps[s]? = some (.bool w) → ChH (chain loc n s) a
  | 0, s, w, h => by intro _ _ hm; simp [chain] at hm
  | n + 1, s, w, h => by
    intro s2 w2 hm
    simp only [chain] at hm
    split at hm
    · rename_i s' w' x hl
      have h' : a.tmps[s']? = some (.bool w') := by
        refine Classical.byContradiction fun hne => ?_
        have := hF.o2 s s' w' x hl hne
        rw [tv_of_some h] at this
        exact undef_nb _ this.symm
      rcases List.mem_cons.1 hm with e | hm
      · simp at e; obtain ⟨rfl, rfl⟩ := e; exact h'
      · exact chain_holds hF n s' w' h' _ _ hm
    · simp at hm

theorem ChH.cons {s : Tmp} {w : Bool} {ch : List (Tmp × Bool)} (h : a.tmps[s]? = some (.bool w)) (hc : ChH ch a) : ChH ((s, w) :: ch) a := by
  intro s' w' hm
  rcases List.mem_cons.1 hm with e | hm
  · simp at e; obtain ⟨rfl, rfl⟩ := e; exact h
  · exact hc _ _ hm

/-- The guards' value is true just if they hold. -/
theorem guardB_holds (hF : FrL S env loc a) : ∀ (ch : List (Tmp × Bool)), guardB env loc ch = some true → ChH ch a
  | [], _ => by intro _ _ hm; simp at hm
  | (s, w) :: l, h => by
    simp only [guardB] at h
    split at h
    · rename_i x r hx hr
      simp at h
      have hr' : r = true := by cases w <;> simp at h <;> exact h.2
      subst hr'
      have hl := guardB_holds hF l hr
      have hv := R_b (evT_sound hF hl hx)
      have : x = w := by cases w <;> simp at h <;> exact h
      subst this
      exact ChH.cons (tv_some hv) hl
    · simp at h
theorem guardB_true (hF : FrL S env loc a) : ∀ (ch : List (Tmp × Bool)) (g : Bool), guardB env loc ch = some g → ChH ch a → g = true
  | [], g, h, _ => by simp [guardB] at h; exact h
  | (s, w) :: l, g, h, hc => by
    simp only [guardB] at h
    split at h
    · rename_i x r hx hr
      simp at h
      have hl : ChH l a := fun s' w' hm => hc s' w' (List.mem_cons_of_mem _ hm)
      have hr' := guardB_true hF l r hr hl
      have hv := R_b (evT_sound hF hl hx)
      have := hc s w (by simp)
      rw [tv_some hv] at this
      simp at this
      subst this hr'
      rw [← h]; cases x <;> rfl
    · simp at h

theorem fresh_none : ∀ {loc : List (Tmp × Sl)} {t : Tmp}, fresh loc t = true → lookL loc t = none
  | [], t, h => rfl
  | (s, x) :: l, t, h => by
    simp [fresh] at h
    simp only [lookL]
    have : Nat.beq s t = false := by simpa using h.1
    rw [this]; exact fresh_none h.2

theorem lookL_cons_ne {l : List (Tmp × Sl)} {t d : Tmp} {x : Sl} (h : d ≠ t) : lookL ((d, x) :: l) t = lookL l t := by
  have : Nat.beq d t = false := by
    cases e : Nat.beq d t with
    | false => rfl
    | true => exact (h (Nat.eq_of_beq_eq_true e)).elim
  simp [lookL, this]
theorem lookL_cons_eq {l : List (Tmp × Sl)} {d : Tmp} {x : Sl} : lookL ((d, x) :: l) d = some x := by
  have : Nat.beq d d = true := Nat.beq_refl d
  simp [lookL, this]

theorem put_ne {d t : Tmp} {v : Value} (h : d ≠ t) : (a.put (some d) v).tmps[t]? = a.tmps[t]? := by
  simp [Act.put, Array.getElem?_setIfInBounds, h]
theorem put_eq {d : Tmp} {v : Value} (h : d < a.tmps.size) : (a.put (some d) v).tmps[d]? = some v := by
  simp [Act.put, Array.getElem?_setIfInBounds, h]
theorem tv_put_ne {d t : Tmp} {v : Value} (h : d ≠ t) : tv (a.put (some d) v) t = tv a t := by
  unfold tv; rw [Array.getD_eq_getD_getElem?, Array.getD_eq_getD_getElem?, put_ne h]
theorem tv_put_eq {d : Tmp} {v : Value} (h : d < a.tmps.size) : tv (a.put (some d) v) d = v := tv_of_some (put_eq h)

theorem FrL.ext {S' : Sig} (hF : FrL S env loc a) (hE : Ext S S') : FrL S' env loc a :=
  ⟨fun t x h => R_ext hE (hF.v t x h), fun t s w x h h' => R_ext hE (hF.o1 t s w x h h'), hF.o2, hF.o3, fun t h x h' => R_ext hE (hF.e t h x h')⟩

theorem FrL.put (hF : FrL S env loc a) {d : Tmp} {v : Value} {sl : Sl} (hf : fresh loc d = true) (hd : d < a.tmps.size)
    (hv : ∀ x, sl = .v x → R S x v) (ho : ∀ s w x, sl = .opt s w x → lookL loc s ≠ none ∧ (a.tmps[s]? = some (.bool w) → R S x v) ∧ (a.tmps[s]? ≠ some (.bool w) → v = undef)) :
    FrL S env ((d, sl) :: loc) (a.put (some d) v) := by
  have hfn := fresh_none hf
  have hs : ∀ s, lookL loc s ≠ none → d ≠ s := fun s h e => h (e ▸ hfn)
  refine ⟨?_, ?_, ?_, ?_, ?_⟩
  · intro t x h
    by_cases e : d = t
    · subst e; rw [lookL_cons_eq] at h; simp at h; rw [tv_put_eq hd]; exact hv x h
    · rw [lookL_cons_ne e] at h; rw [tv_put_ne e]; exact hF.v t x h
  · intro t s w x h h'
    by_cases e : d = t
    · subst e; rw [lookL_cons_eq] at h; simp at h
      obtain ⟨k1, k2, _⟩ := ho s w x h
      rw [put_ne (hs s k1)] at h'
      rw [tv_put_eq hd]; exact k2 h'
    · rw [lookL_cons_ne e] at h
      rw [put_ne (hs s (hF.o3 t s w x h))] at h'
      rw [tv_put_ne e]; exact hF.o1 t s w x h h'
  · intro t s w x h h'
    by_cases e : d = t
    · subst e; rw [lookL_cons_eq] at h; simp at h
      obtain ⟨k1, _, k3⟩ := ho s w x h
      rw [put_ne (hs s k1)] at h'
      rw [tv_put_eq hd]; exact k3 h'
    · rw [lookL_cons_ne e] at h
      rw [put_ne (hs s (hF.o3 t s w x h))] at h'
      rw [tv_put_ne e]; exact hF.o2 t s w x h h'
  · intro t s w x h
    have : lookL loc s ≠ none := by
      by_cases e : d = t
      · subst e; rw [lookL_cons_eq] at h; simp at h; exact (ho s w x h).1
      · rw [lookL_cons_ne e] at h; exact hF.o3 t s w x h
    rw [lookL_cons_ne (hs s this)]; exact this
  · intro t h x h'
    by_cases e : d = t
    · subst e; rw [lookL_cons_eq] at h; simp at h
    · rw [lookL_cons_ne e] at h; rw [tv_put_ne e]; exact hF.e t h x h'

theorem putL_out {nt : Nat} {d : Option Tmp} {s : Sl} {K : List (Tmp × Sl) → Prop} (h : putL nt loc d s K) :
    (d = none ∧ K loc) ∨ ∃ t, d = some t ∧ fresh loc t = true ∧ t < nt ∧ K ((t, s) :: loc) := by
  unfold putL at h
  split at h
  · exact .inl ⟨rfl, h⟩
  · obtain ⟨h1, h2⟩ := onB_out h
    simp at h1
    exact .inr ⟨_, rfl, h1.1, by simpa using h1.2, h2⟩
end

/-! ### One operation -/
theorem pickK_sound {S : Sig} {c : Bool} {x y : SV} {vx vy : Value} {K : SV → Prop} (h : pickK c x y K) (hx : c = true → R S x vx) (hy : c = false → R S y vy) :
    ∃ sv, K sv ∧ R S sv (if c then vx else vy) := by
  unfold pickK at h
  split at h
  · refine ⟨_, h, ?_⟩
    cases c
    · exact hy rfl
    · exact hx rfl
  · obtain ⟨h1, h2⟩ := onB_out h
    have := kindEq_eq h1; subst this
    refine ⟨_, h2, ?_⟩
    cases c
    · exact hy rfl
    · exact hx rfl
  · split at h
    · exact ⟨_, h, hx rfl⟩
    · exact ⟨_, h, hy rfl⟩

theorem stepK_sound {E : Env} {S : Sig} {M : Mem} {w : World} {call : CallT} (hE : EnvOK E) (hcall : CallOK E call) (hG : Glob E S) (h : Rep S M w) {o : Oper} {a : Act}
    {env : List (Tmp × SV)} {loc : List (Tmp × Sl)} {ch : List (Tmp × Bool)} (hF : FrL S env loc a) (hc : ChH ch a)
    {K : SV → Mem → Prop} (hk : stepK E call o env loc ch M K) {next : Act → World → Prop} {Q : Exit → Act → World → Prop} (hn : Nxt S o a K next) : o.wp E.P a w next Q := by
  unfold stepK at hk
  split at hk
  · rename_i s x y hop
    split at hk
    · rename_i c va vb hs hx hy
      have hcv := R_b (evT_sound hF hc hs)
      have hX : c = true → R S va (a.eval x) := fun e => evO_sound hG hF (ChH.cons (by rw [tv_some hcv, e]) hc) hx
      have hY : c = false → R S vb (a.eval y) := fun e => evO_sound hG hF (ChH.cons (by rw [tv_some hcv, e]) hc) hy
      have key : ∀ sv, K sv M → R S sv (if c then a.eval x else a.eval y) → o.wp E.P a w next Q := by
        intro sv k1 k2
        refine wp_val (s := pure (if c then a.eval x else a.eval y)) ?_ (by simp) (hn S sv M _ w (Ext.refl S) h k1 (.inr k2))
        have : a.eval (.tmp s) = .bool c := hcv
        simp [execOp, hop, this, asBool]
      have gen : pickK c va vb (fun v => K v M) → o.wp E.P a w next Q := by
        intro hk
        obtain ⟨sv, k1, k2⟩ := pickK_sound hk hX hY
        exact key sv k1 k2
      split at hk
      · split at hk
        · rename_i q _
          refine key _ hk ?_
          cases c
          · exact hY rfl
          · show Rf S _ _; simp [Rf, Act.eval]
        · exact gen hk
      · split at hk
        · rename_i p _
          refine key _ hk ?_
          cases c
          · show Rf S _ _; simp [Rf, Act.eval]
          · exact hX rfl
        · exact gen hk
      · exact gen hk
    · exact hk.elim
  · exact opK_sound hE hcall hG h (fun x sv hx => evO_sound hG hF hc hx) hk hn

end Go.Sx
