/- SxD3: the theorem of such regions. -/
import Derived.Test.YtmgaphghjhbhhaaSxD2
namespace Go.Sx
set_option linter.unusedVariables false
set_option linter.unusedSimpArgs false

structure Ent where
  sl : Option (Tmp × Sl)
  ft : Option (Nat × List PStep)
  st : Option (Nat × List PStep)
  M : Mem
  M' : Mem

section
variable (E : Env) (nt : Nat) (ops : Array Oper) (env : List (Tmp × SV))

/-- What is known of an operation in the text's order. -/
inductive EntOK (o : Oper) (loc : List (Tmp × Sl)) (e : Ent) : Prop where
  | store (T : TypeId) (x y : Operand) (b : Nat) (p : List PStep) (v t t' : SV) (hop : o.op = .store T x y) (hg : o.guard = none) (hd : o.dst = none) (hs : e.sl = none) (hx : evO E.glob env loc [] x = some (.ptr b p))
      (hy : evO E.glob env loc [] y = some v) (ht : getM e.M b = some t) (hp : SV.put t p v = some t') (hz : (Nat.beq v.size (E.P.cellsOf T) && (!Nat.beq v.size 0 && !v.isTup)) = true) (hM : e.M' = setM e.M b t') (hst : e.st = some (b, p))
  | plain (v : SV) (hns : isStore o.op = false) (hg : o.guard = none) (hs : e.sl = o.dst.map fun d => (d, .v v)) (hM : e.M' = e.M) (hst : e.st = none) (hd : ∀ d, o.dst = some d → d < nt)
      (hft : e.ft = foot o.op (evO E.glob env loc [])) (hr : ∀ K : SV → Prop, K v → stepD E o env loc [] e.M K)
  | guarded (v : SV) (g : Nat) (w : Bool) (s : Tmp) (hns : isStore o.op = false) (hg : o.guard = some (g, w)) (hgs : (ops[g]?).bind (·.dst) = some s) (hl : lookL loc s ≠ none) (hs : e.sl = o.dst.map fun d => (d, .opt s w v)) (hM : e.M' = e.M) (hst : e.st = none)
      (hd : ∀ d, o.dst = some d → d < nt)
      (hr : (e.ft = foot o.op (evO E.glob env loc ((s, w) :: chain loc 8 s)) ∧ ∀ K : SV → Prop, K v → stepD E o env loc ((s, w) :: chain loc 8 s) e.M K) ∨ guardB env loc ((s, w) :: chain loc 8 s) = some false)

/-- The operations one behind the other. -/
inductive Trace : List Oper → List (Tmp × Sl) → Mem → List Ent → List (Tmp × Sl) → Mem → Prop where
  | nil (loc : List (Tmp × Sl)) (M : Mem) : Trace [] loc M [] loc M
  | cons (o : Oper) (rest : List Oper) (loc : List (Tmp × Sl)) (e : Ent) (tr : List Ent) (locF : List (Tmp × Sl)) (MF : Mem) (h : EntOK E nt ops env o loc e)
      (hf : ∀ d s, e.sl = some (d, s) → fresh loc d = true) (ht : Trace rest (e.sl.toList ++ loc) e.M' tr locF MF) : Trace (o :: rest) loc e.M (e :: tr) locF MF

def feet : List Ent → Nat → List Foot
  | [], _ => []
  | e :: l, j => (e.ft.toList.map fun x => (j, x.1, x.2)) ++ feet l (j + 1)
def sts : List Ent → Nat → List Foot
  | [], _ => []
  | e :: l, j => (e.st.toList.map fun x => (j, x.1, x.2)) ++ sts l (j + 1)
end

theorem disjAll_iff {ops : Array Oper} : ∀ {rd wr : List Foot}, disjAll ops rd wr = true ↔ ∀ i b p, (i, b, p) ∈ rd → ∀ k c q, (k, c, q) ∈ wr → anc ops i k = true ∨ anc ops k i = true ∨ (!Nat.beq b c || diverge p q) = true
  | [], wr => by simp [disjAll]
  | (i, b, p) :: l, wr => by
    simp only [disjAll, Bool.and_eq_true, List.all_eq_true, disjAll_iff, List.mem_cons]
    constructor
    · rintro ⟨h1, h2⟩ i' b' p' (h | h) k c q hk
      · simp at h; obtain ⟨rfl, rfl, rfl⟩ := h
        have := h1 (k, c, q) hk
        simpa only [Bool.or_eq_true] using this
      · exact h2 i' b' p' h k c q hk
    · intro h
      refine ⟨fun x hx => ?_, fun i' b' p' hi => h i' b' p' (.inr hi)⟩
      obtain ⟨k, c, q⟩ := x
      have := h i b p (.inl rfl) k c q hx
      simpa only [Bool.or_eq_true] using this

theorem regDK_trace {E : Env} {nt : Nat} {ops : Array Oper} {env : List (Tmp × SV)} : ∀ (rest : List Oper) (j : Nat) (loc : List (Tmp × Sl)) (M : Mem) (rd wr : List Foot) (K : List (Tmp × Sl) → Mem → Prop), regDK E nt ops rest j loc env M rd wr K →
    ∃ tr locF MF rdF wrF, Trace E nt ops env rest loc M tr locF MF ∧ K locF MF ∧ disjAll ops rdF wrF = true ∧ (∀ x ∈ rd, x ∈ rdF) ∧ (∀ x ∈ wr, x ∈ wrF) ∧ (∀ x ∈ feet tr j, x ∈ rdF) ∧ (∀ x ∈ sts tr j, x ∈ wrF)
  | [], j, loc, M, rd, wr, K, h => by
    simp only [regDK] at h
    obtain ⟨h1, h2⟩ := onB_out h
    exact ⟨[], loc, M, rd, wr, .nil loc M, h2, h1, fun x h => h, fun x h => h, by simp [feet], by simp [sts]⟩
  | o :: rest, j, loc, M, rd, wr, K, h => by
    simp only [regDK] at h
    have fin : ∀ (e : Ent) (rd' wr' : List Foot), e.M = M → EntOK E nt ops env o loc e → (∀ d s, e.sl = some (d, s) → fresh loc d = true) → regDK E nt ops rest (j + 1) (e.sl.toList ++ loc) env e.M' rd' wr' K →
        (∀ x ∈ rd, x ∈ rd') → (∀ x ∈ wr, x ∈ wr') → (∀ x, e.ft = some x → (j, x.1, x.2) ∈ rd') → (∀ x, e.st = some x → (j, x.1, x.2) ∈ wr') →
        ∃ tr locF MF rdF wrF, Trace E nt ops env (o :: rest) loc M tr locF MF ∧ K locF MF ∧ disjAll ops rdF wrF = true ∧ (∀ x ∈ rd, x ∈ rdF) ∧ (∀ x ∈ wr, x ∈ wrF) ∧ (∀ x ∈ feet tr j, x ∈ rdF) ∧ (∀ x ∈ sts tr j, x ∈ wrF) := by
      intro e rd' wr' hM hok hfr hk h1 h2 h3 h4
      obtain ⟨tr, locF, MF, rdF, wrF, t1, t2, t3, t4, t5, t6, t7⟩ := regDK_trace rest (j + 1) _ _ _ _ K hk
      subst hM
      refine ⟨e :: tr, locF, MF, rdF, wrF, .cons o rest loc e tr locF MF hok hfr t1, t2, t3, fun x hx => t4 x (h1 x hx), fun x hx => t5 x (h2 x hx), fun x hx => ?_, fun x hx => ?_⟩
      · simp only [feet, List.mem_append, List.mem_map] at hx
        rcases hx with ⟨y, hy, rfl⟩ | hx
        · exact t4 _ (h3 y (by simpa using hy))
        · exact t6 x hx
      · simp only [sts, List.mem_append, List.mem_map] at hx
        rcases hx with ⟨y, hy, rfl⟩ | hx
        · exact t5 _ (h4 y (by simpa using hy))
        · exact t7 x hx
    have putc : ∀ (sl : Sl) (K' : List (Tmp × Sl) → Prop), putL nt loc o.dst sl K' → (∀ d, o.dst = some d → d < nt) ∧ (∀ d s, (o.dst.map fun d => (d, sl)) = some (d, s) → fresh loc d = true) ∧ K' ((o.dst.map fun d => (d, sl)).toList ++ loc) := by
      intro sl K' hp
      rcases putL_out hp with ⟨e, hk⟩ | ⟨t, e, hf, ht, hk⟩
      · simp [e, hk]
      · refine ⟨fun d hd => ?_, fun d s hd => ?_, ?_⟩
        · rw [e] at hd; simp at hd; subst hd; exact ht
        · rw [e] at hd; simp at hd; rw [← hd.1]; exact hf
        · rw [e]; simpa using hk
    split at h
    · split at h
      · rename_i T x y hop hg hd
        split at h
        · rename_i b p v hx hy
          unfold storeK at h
          dsimp only at h
          split at h
          · rename_i t ht
            split at h
            · rename_i t' hp
              obtain ⟨hz, h⟩ := onB_out h
              exact fin ⟨none, none, some (b, p), M, setM M b t'⟩ rd ((j, b, p) :: wr) rfl (.store T x y b p v t t' hop hg hd rfl hx hy ht hp hz rfl rfl) (by simp) h (fun x h => h) (fun x h => by simp [h]) (by simp) (by rintro _ ⟨⟩; simp)
            · exact h.elim
          · exact h.elim
        · exact h.elim
      · exact h.elim
    · rename_i hns
      split at h
      · rename_i hg
        obtain ⟨v, h1, h2⟩ := det_stepD _ h
        obtain ⟨p1, p2, p3⟩ := putc _ _ h1
        refine fin ⟨o.dst.map fun d => (d, .v v), foot o.op (evO E.glob env loc []), none, M, M⟩ _ wr rfl (.plain v hns hg rfl rfl rfl p1 rfl h2) p2 p3 (fun x hx => ?_) (fun x h => h) (fun x hx => ?_) (by simp)
        · unfold addFoot; split <;> simp [hx]
        · simp only at hx; rw [hx]; simp [addFoot]
      · rename_i g w hg
        split at h
        · exact h.elim
        · rename_i s hs
          split at h
          · exact h.elim
          · rename_i hfr
            have hls : lookL loc s ≠ none := by
              intro e
              have : ∀ (l : List (Tmp × Sl)), lookL l s = none → fresh l s = true := by
                intro l
                induction l with
                | nil => intro _; rfl
                | cons x l ih =>
                  intro he
                  obtain ⟨s', y⟩ := x
                  by_cases hq : s' = s
                  · subst hq; rw [lookL_cons_eq] at he; simp at he
                  · rw [lookL_cons_ne hq] at he
                    have : Nat.beq s' s = false := by
                      cases e : Nat.beq s' s with
                      | false => rfl
                      | true => exact (hq (Nat.eq_of_beq_eq_true e)).elim
                    simp only [fresh, this, ih he]; rfl
              rw [this loc e] at hfr; simp at hfr
            have run : ∀ (h : stepD E o env loc ((s, w) :: chain loc 8 s) M (fun v => putL nt loc o.dst (.opt s w v) (fun loc' => regDK E nt ops rest (j + 1) loc' env M (addFoot j (foot o.op (evO E.glob env loc ((s, w) :: chain loc 8 s))) rd) wr K))),
                ∃ tr locF MF rdF wrF, Trace E nt ops env (o :: rest) loc M tr locF MF ∧ K locF MF ∧ disjAll ops rdF wrF = true ∧ (∀ x ∈ rd, x ∈ rdF) ∧ (∀ x ∈ wr, x ∈ wrF) ∧ (∀ x ∈ feet tr j, x ∈ rdF) ∧ (∀ x ∈ sts tr j, x ∈ wrF) := by
              intro h
              obtain ⟨v, h1, h2⟩ := det_stepD _ h
              obtain ⟨p1, p2, p3⟩ := putc _ _ h1
              refine fin ⟨o.dst.map fun d => (d, .opt s w v), foot o.op (evO E.glob env loc ((s, w) :: chain loc 8 s)), none, M, M⟩ _ wr rfl (.guarded v g w s hns hg hs hls rfl rfl rfl p1 (.inl ⟨rfl, h2⟩)) p2 p3 (fun x hx => ?_) (fun x h => h) (fun x hx => ?_) (by simp)
              · unfold addFoot; split <;> simp [hx]
              · simp only at hx; rw [hx]; simp [addFoot]
            split at h
            · exact run h
            · split at h
              · exact h.elim
              · exact run h
              · rename_i hgb
                obtain ⟨p1, p2, p3⟩ := putc _ _ h
                exact fin ⟨o.dst.map fun d => (d, .opt s w (dflt E o.type)), none, none, M, M⟩ rd wr rfl (.guarded _ g w s hns hg hs hls rfl rfl rfl p1 (.inr hgb)) p2 p3 (fun x h => h) (fun x h => h) (by simp) (by simp)

end Go.Sx
