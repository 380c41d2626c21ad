/- SxD4: the theorem of the regions whose order is open. -/
import Derived.Test.YtmgaphghjhbhhaaSxD3
import Derived.Test.YtmgaphghjhbhhaaSxC
namespace Go.Sx
set_option linter.unusedVariables false
set_option linter.unusedSimpArgs false

theorem noCall_ok {E : Env} : CallOK E noCall := fun f args M K h => h.elim

theorem opK_noCall_mem {E : Env} {o : Oper} {ev : Operand → Option SV} {M : Mem} {K : SV → Prop} (hp : plainOp o.op = true) (h : opK E noCall o ev M (fun v _ => K v)) : opK E noCall o ev M (fun v M' => M' = M ∧ K v) := by
  have : opK E noCall o ev M (fun v _ => M = M ∧ K v) := by
    obtain ⟨v, h1, h2⟩ := det_opK hp K h
    exact h2 (fun v => M = M ∧ K v) ⟨rfl, h1⟩
  unfold opK at this ⊢
  split at this <;> first
    | exact this
    | exact this.elim
    | (rename_i hop; simp [hop, plainOp, quiet] at hp; done)

theorem stepK_noCall_mem {E : Env} {o : Oper} {env : List (Tmp × SV)} {loc : List (Tmp × Sl)} {ch : List (Tmp × Bool)} {M : Mem} {K : SV → Prop} (hp : plainOp o.op = true)
    (h : stepK E noCall o env loc ch M (fun v _ => K v)) : stepK E noCall o env loc ch M (fun v M' => M' = M ∧ K v) := by
  have h2 : stepK E noCall o env loc ch M (fun v _ => M = M ∧ K v) := by
    have hd : ∀ (F : SV → Prop), stepD E o env loc ch M F → ∃ v, F v ∧ ∀ K', K' v → stepD E o env loc ch M K' := fun F hF => det_stepD F hF
    have hnc : ∀ c, o.op ≠ .call c := by rintro c e; simp [e, plainOp, quiet] at hp
    have conv : ∀ F : SV → Prop, stepD E o env loc ch M F ↔ stepK E noCall o env loc ch M (fun v _ => F v) := by
      intro F
      unfold stepD
      split
      · rename_i c e; exact (hnc c e).elim
      · rw [hp]; exact Iff.rfl
    obtain ⟨v, h1, h2⟩ := hd K ((conv K).2 h)
    exact (conv _).1 (h2 (fun v => M = M ∧ K v) ⟨rfl, h1⟩)
  unfold stepK at h2 ⊢
  split at h2
  · exact h2
  · obtain ⟨v, h4, h5⟩ := det_opK hp _ h2
    exact opK_noCall_mem hp (h5 K h4.2)

theorem stepD_sound {E : Env} (hE : EnvOK E) (hgam : GamOK E) {S : Sig} {M : Mem} {w : World} (hG : Glob E S) (h : Rep S M w) {o : Oper} {a : Act} {env : List (Tmp × SV)} {loc : List (Tmp × Sl)} {ch : List (Tmp × Bool)}
    (hF : FrL S env loc a) (hc : ChH ch a) {K : SV → Prop} (hk : stepD E o env loc ch M K) {next : Act → World → Prop} {Q : Exit → Act → World → Prop}
    (hn : ∀ S' sv v w', Ext S S' → Rep S' M w' → K sv → (o.dst = none ∨ R S' sv v) → next (a.put o.dst v) w') : o.wp E.P a w next Q := by
  have hev : ∀ x sv, evO E.glob env loc ch x = some sv → R S sv (a.eval x) := fun x sv hx => evO_sound hG hF hc hx
  unfold stepD at hk
  split at hk
  · rename_i c hop
    unfold callD at hk
    split at hk
    · exact hk.elim
    · rename_i args hargs
      have hA := evAll_R hev _ _ hargs
      split at hk
      · rename_i f hcal
        split at hk
        · rename_i g hf
          split at hk
          · rename_i pre f' hgm
            split at hk
            · rename_i r hr
              obtain ⟨h1, h2, h3⟩ := onB_out hk
              simp only [Bool.and_eq_true] at h1
              obtain ⟨hg, hcl⟩ := h1
              have hfv := R_fn (hev _ _ hf)
              have hcon : conK (.pure pre f') args M (fun v M' => M' = M ∧ K v) := by
                simp only [conK, hr]; exact onB_in hcl ⟨h2, trivial, h3⟩
              refine wp_calls (vs := c.args.map a.eval) (S := S) (K := fun v M' => M' = M ∧ K v) ?_ (conK_sound (hgam g _ hgm) hcon hG h (by simpa using hA)) ?_
              · simp [execOp, hop, resolve, hcal, hfv, Deferred.ofValue, invoke, run_callFunc hg]
              · intro S' sv M' v w' e1 e2 e3 e4
                obtain ⟨rfl, e3⟩ := e3
                exact hn S' sv v w' e1 e2 e3 e4
            · exact hk.elim
          · exact hk.elim
        · exact hk.elim
      · exact hk.elim
      · rename_i b hcal
        obtain ⟨sv, v, k1, k2, k3⟩ := builtinK_sound (ty := o.type) (cs := c.args.map fun | .const _ => true | _ => false) (vs := c.args.map a.eval) hk h (by simpa using hA)
        unfold Oper.wp
        have : (execOp a.eval o).run E.P w = .ok (.value v) w := by
          simp only [execOp, hop, resolve, hcal, Sem.run_bind, Sem.run_pure, Result.andThen_ok, invoke]
          exact k2
        rw [this, Oper.upon_value]
        exact hn S sv v w (Ext.refl S) h k1 (.inr k3)
  · obtain ⟨hp, hk⟩ := onB_out hk
    refine stepK_sound hE noCall_ok hG h hF hc (stepK_noCall_mem hp hk) ?_
    intro S' sv M' v w' e1 e2 e3 e4
    obtain ⟨rfl, e3⟩ := e3
    exact hn S' sv v w' e1 e2 e3 e4

/-! ### The trace by places -/
def locT : List Ent → List (Tmp × Sl) → Nat → List (Tmp × Sl)
  | _, l, 0 => l
  | [], l, _ + 1 => l
  | e :: tr, l, j + 1 => locT tr (e.sl.toList ++ l) j
def Mat : List Ent → Mem → Nat → Mem
  | _, M, 0 => M
  | [], M, _ + 1 => M
  | e :: tr, _, j + 1 => Mat tr e.M' j

section
variable {E : Env} {nt : Nat} {ops : Array Oper} {env : List (Tmp × SV)}

theorem Trace.at : ∀ {rest : List Oper} {loc : List (Tmp × Sl)} {M : Mem} {tr : List Ent} {locF : List (Tmp × Sl)} {MF : Mem}, Trace E nt ops env rest loc M tr locF MF →
    tr.length = rest.length ∧ locF = locT tr loc rest.length ∧ MF = Mat tr M rest.length ∧
    ∀ (j : Nat) o, rest[j]? = some o → ∃ e, tr[j]? = some e ∧ EntOK E nt ops env o (locT tr loc j) e ∧ e.M = Mat tr M j ∧ Mat tr M (j + 1) = e.M' ∧ locT tr loc (j + 1) = e.sl.toList ++ locT tr loc j ∧ (∀ d s, e.sl = some (d, s) → fresh (locT tr loc j) d = true)
  | _, _, _, _, _, _, .nil loc M => ⟨rfl, rfl, rfl, fun j o h => by simp at h⟩
  | _, _, _, _, _, _, .cons o rest loc e tr locF MF h hf ht => by
    obtain ⟨h1, h2, h3, h4⟩ := Trace.at ht
    refine ⟨by simp [h1], by simpa [locT] using h2, by simpa [Mat] using h3, fun j o' ho => ?_⟩
    cases j with
    | zero =>
      simp at ho; subst ho
      refine ⟨e, rfl, h, rfl, ?_, ?_, hf⟩
      · cases tr <;> simp [Mat]
      · cases tr <;> simp [locT]
    | succ j =>
      simp at ho
      obtain ⟨e', k1, k2, k3, k4, k5, k6⟩ := h4 j o' ho
      exact ⟨e', by simpa using k1, by simpa [locT] using k2, by simpa [Mat] using k3, by simpa [Mat] using k4, by simpa [locT] using k5, by simpa [locT] using k6⟩

theorem feet_mem : ∀ {tr : List Ent} {j i : Nat} {e : Ent} {x : Nat × List PStep}, tr[i]? = some e → e.ft = some x → (j + i, x.1, x.2) ∈ feet tr j
  | [], j, i, e, x, h, _ => by simp at h
  | e' :: l, j, 0, e, x, h, hx => by
    simp at h; subst h
    simp [feet, hx]
  | e' :: l, j, i + 1, e, x, h, hx => by
    simp at h
    have := feet_mem (j := j + 1) h hx
    simp only [feet, List.mem_append]
    right; rw [show j + (i + 1) = j + 1 + i by omega]; exact this
theorem sts_mem : ∀ {tr : List Ent} {j i : Nat} {e : Ent} {x : Nat × List PStep}, tr[i]? = some e → e.st = some x → (j + i, x.1, x.2) ∈ sts tr j
  | [], j, i, e, x, h, _ => by simp at h
  | e' :: l, j, 0, e, x, h, hx => by
    simp at h; subst h
    simp [sts, hx]
  | e' :: l, j, i + 1, e, x, h, hx => by
    simp at h
    have := sts_mem (j := j + 1) h hx
    simp only [sts, List.mem_append]
    right; rw [show j + (i + 1) = j + 1 + i by omega]; exact this
end

/-- All that a trace of a whole region tells, place by place. -/
structure Tel (E : Env) (nt : Nat) (ops : Array Oper) (env : List (Tmp × SV)) (tr : List Ent) (M0 : Mem) : Prop where
  dr : Dr ops
  at_ : ∀ (j : Nat) o, ops[j]? = some o → ∃ e, tr[j]? = some e ∧ EntOK E nt ops env o (locT tr [] j) e ∧ e.M = Mat tr M0 j ∧ Mat tr M0 (j + 1) = e.M' ∧ locT tr [] (j + 1) = e.sl.toList ++ locT tr [] j ∧ (∀ d s, e.sl = some (d, s) → fresh (locT tr [] j) d = true)
  ap : ∀ (i r : Nat) (ei er : Ent) b p c q, tr[i]? = some ei → tr[r]? = some er → ei.ft = some (b, p) → er.st = some (c, q) → anc ops i r = true ∨ anc ops r i = true ∨ (!Nat.beq b c || diverge p q) = true

section
variable {E : Env} {nt : Nat} {ops : Array Oper} {env : List (Tmp × SV)} {tr : List Ent} {M0 : Mem}

/-- What place p writes. -/
def slAt (tr : List Ent) (p : Nat) : Option (Tmp × Sl) := (tr[p]?).bind (·.sl)

theorem Tel.dst (h : Tel E nt ops env tr M0) {p : Nat} {t : Tmp} {s : Sl} (hs : slAt tr p = some (t, s)) (hp : p < ops.size) : ∃ o, ops[p]? = some o ∧ o.dst = some t := by
  obtain ⟨e, h1, h2, _⟩ := h.at_ p _ (Array.getElem?_eq_getElem hp)
  refine ⟨_, Array.getElem?_eq_getElem hp, ?_⟩
  unfold slAt at hs
  rw [h1] at hs
  simp at hs
  cases h2 with
  | store T x y b p v t t' hop hg hd hs' => rw [hs'] at hs; simp at hs
  | plain v hns hg hs' => rw [hs'] at hs; simp at hs; obtain ⟨a, h1, h2, _⟩ := hs; rw [h1, h2]
  | guarded v g w s hns hg hgs hl hs' => rw [hs'] at hs; simp at hs; obtain ⟨a, h1, h2, _⟩ := hs; rw [h1, h2]

theorem Tel.text (h : Tel E nt ops env tr M0) : ∀ (j : Nat), j ≤ ops.size → (∀ t s, lookL (locT tr [] j) t = some s → ∃ p, p < j ∧ slAt tr p = some (t, s)) ∧ (∀ p t s, p < j → slAt tr p = some (t, s) → lookL (locT tr [] j) t = some s)
  | 0, _ => ⟨fun t s hl => by cases tr <;> simp [locT, lookL] at hl, fun p t s hp => by omega⟩
  | j + 1, hj => by
    obtain ⟨h1, h2⟩ := h.text j (by omega)
    obtain ⟨e, k1, k2, k3, k4, k5, k6⟩ := h.at_ j _ (Array.getElem?_eq_getElem (by omega : j < ops.size))
    rw [k5]
    have hsl : slAt tr j = e.sl := by unfold slAt; rw [k1]; rfl
    cases he : e.sl with
    | none =>
      simp only [Option.toList_none, List.nil_append]
      refine ⟨fun t s hl => ?_, fun p t s hp hs => ?_⟩
      · obtain ⟨p, hp, hs⟩ := h1 t s hl; exact ⟨p, by omega, hs⟩
      · rcases Nat.lt_or_ge p j with hq | hq
        · exact h2 p t s hq hs
        · have : p = j := by omega
          subst this; rw [hsl, he] at hs; simp at hs
    | some x =>
      obtain ⟨d, s0⟩ := x
      simp only [Option.toList_some, List.singleton_append]
      refine ⟨fun t s hl => ?_, fun p t s hp hs => ?_⟩
      · by_cases e1 : d = t
        · subst e1; rw [lookL_cons_eq] at hl; simp at hl; subst hl
          exact ⟨j, by omega, by rw [hsl, he]⟩
        · rw [lookL_cons_ne e1] at hl
          obtain ⟨p, hp, hs⟩ := h1 t s hl; exact ⟨p, by omega, hs⟩
      · rcases Nat.lt_or_ge p j with hq | hq
        · have := h2 p t s hq hs
          have hf := fresh_none (k6 d s0 he)
          rw [lookL_cons_ne (by rintro rfl; rw [this] at hf; simp at hf)]; exact this
        · have : p = j := by omega
          subst this; rw [hsl, he] at hs; simp at hs
          obtain ⟨rfl, rfl⟩ := hs
          exact lookL_cons_eq

/-- The memory between two stores that are apart from a place. -/
theorem Tel.range (h : Tel E nt ops env tr M0) {b : Nat} {p : List PStep} : ∀ (n i : Nat), i + n ≤ ops.size → (∀ r er c q, i ≤ r → r < i + n → tr[r]? = some er → er.st = some (c, q) → (!Nat.beq b c || diverge p q) = true) → memG (Mat tr M0 (i + n)) b p = memG (Mat tr M0 i) b p
  | 0, i, _, _ => rfl
  | n + 1, i, hn, ha => by
    have ih := h.range n i (by omega) (fun r er c q h1 h2 => ha r er c q h1 (by omega))
    obtain ⟨e, k1, k2, k3, k4, k5, k6⟩ := h.at_ (i + n) _ (Array.getElem?_eq_getElem (by omega : i + n < ops.size))
    rw [show i + (n + 1) = i + n + 1 by omega, k4, ← ih, ← k3]
    cases k2 with
    | store T x y c q v t t' hop hg hd hs' hx hy ht hp hz hM hst =>
      rw [hM]
      exact memG_apart (ha (i + n) e c q (by omega) (by omega) k1 hst) ht hp
    | plain v hns hg hs' hM => rw [hM]
    | guarded v g w s hns hg hgs hl hs' hM => rw [hM]

theorem Tel.same (h : Tel E nt ops env tr M0) : ∀ (n i : Nat), i + n ≤ ops.size → (∀ r, i ≤ r → r < i + n → ∀ o, ops[r]? = some o → isStore o.op = false) → Mat tr M0 (i + n) = Mat tr M0 i
  | 0, i, _, _ => rfl
  | n + 1, i, hn, ha => by
    have ih := h.same n i (by omega) (fun r h1 h2 => ha r h1 (by omega))
    obtain ⟨e, k1, k2, k3, k4, k5, k6⟩ := h.at_ (i + n) _ (Array.getElem?_eq_getElem (by omega : i + n < ops.size))
    rw [show i + (n + 1) = i + n + 1 by omega, k4, ← ih, ← k3]
    have hns := ha (i + n) (by omega) (by omega) _ (Array.getElem?_eq_getElem (by omega : i + n < ops.size))
    cases k2 with
    | store T x y c q v t t' hop => rw [hop] at hns; simp [isStore] at hns
    | plain v hns hg hs' hM => rw [hM]
    | guarded v g w s hns hg hgs hl hs' hM => rw [hM]
end

/-! ### States on the way -/
structure Inv (ops : Array Oper) (tr : List Ent) (D : Array Bool) (L : List (Tmp × Sl)) (k : Nat) : Prop where
  sz : D.size = ops.size
  down : ∀ i j, D.getD j false = true → anc ops i j = true → D.getD i false = true
  il : ∀ p t s, D.getD p false = true → slAt tr p = some (t, s) → lookL L t = some s
  in_ : ∀ t s, lookL L t = some s → ∃ p, D.getD p false = true ∧ slAt tr p = some (t, s)
  kle : k ≤ ops.size
  lo : ∀ (i : Nat) o, ops[i]? = some o → isStore o.op = true → i < k → D.getD i false = true
  hi : ∀ (i : Nat) o, ops[i]? = some o → isStore o.op = true → k ≤ i → D.getD i false = false

theorem getD_lt {D : Array Bool} {i : Nat} (h : D.getD i false = true) : i < D.size := by
  refine Classical.byContradiction fun hn => ?_
  rw [Array.getD_eq_getD_getElem?, Array.getElem?_eq_none (by omega)] at h; simp at h

section
variable {E : Env} {nt : Nat} {ops : Array Oper} {env : List (Tmp × SV)} {tr : List Ent} {M0 : Mem} {D : Array Bool} {L : List (Tmp × Sl)} {k : Nat}

theorem ready_out (hT : Tel E nt ops env tr M0) (hI : Inv ops tr D L k) {i : Nat} (h : i ∈ Region.ready .any ops D) : ∃ o, ops[i]? = some o ∧ i < ops.size ∧ D.getD i false = false ∧ ∀ p, anc ops p i = true → D.getD p false = true ∧ p < i := by
  obtain ⟨h1, o, h2, h3⟩ := mem_ready.1 h
  have hlt : i < ops.size := (Array.getElem?_eq_some_iff.1 h2).1
  have hm := hT.dr.lt i hlt
  refine ⟨o, h2, hlt, ?_, fun p hp => ⟨?_, anc_lt hm hp⟩⟩
  · rw [Array.getD_eq_getD_getElem?] at h1 ⊢
    cases e : D[i]? with
    | none => rfl
    | some v => rw [e] at h1; simpa using h1
  · obtain ⟨e, he, hb, hpe⟩ := (anc_iff h2 hm).1 hp
    have hD := h3 e (by simpa using he) hb
    rcases hpe with rfl | hpe
    · exact hD
    · exact hI.down _ _ hD hpe

/-- A slot whose writers are all done and lie ahead in the text reads as in the text. -/
theorem agree (hT : Tel E nt ops env tr M0) (hI : Inv ops tr D L k) {i : Nat} (hi : i ≤ ops.size) {t : Tmp} (h : ∀ (p : Nat) o, ops[p]? = some o → o.dst = some t → D.getD p false = true ∧ p < i) : lookL L t = lookL (locT tr [] i) t := by
  obtain ⟨h1, h2⟩ := hT.text i hi
  cases ht : lookL (locT tr [] i) t with
  | some s =>
    obtain ⟨p, hp, hs⟩ := h1 t s ht
    obtain ⟨o, ho, hd⟩ := hT.dst hs (by omega)
    exact hI.il p t s (h p o ho hd).1 hs
  | none =>
    cases hl : lookL L t with
    | none => rfl
    | some s =>
      obtain ⟨p, hp, hs⟩ := hI.in_ t s hl
      have hlt : p < ops.size := by rw [← hI.sz]; exact getD_lt hp
      obtain ⟨o, ho, hd⟩ := hT.dst hs hlt
      rw [h2 p t s (h p o ho hd).2 hs] at ht; simp at ht

theorem chain_agree (hT : Tel E nt ops env tr M0) (hI : Inv ops tr D L k) {i : Nat} (hi : i ≤ ops.size) : ∀ (n : Nat) (s : Tmp), (∀ (p : Nat) o, ops[p]? = some o → o.dst = some s → D.getD p false = true ∧ p < i) →
    chain L n s = chain (locT tr [] i) n s ∧ ∀ s' w', (s', w') ∈ chain (locT tr [] i) n s → lookL L s' = lookL (locT tr [] i) s'
  | 0, s, h => ⟨rfl, fun s' w' hm => by simp [chain] at hm⟩
  | n + 1, s, h => by
    have ha := agree hT hI hi h
    simp only [chain]
    rw [ha]
    cases ht : lookL (locT tr [] i) s with
    | none => exact ⟨rfl, fun s' w' hm => by simp at hm⟩
    | some sl =>
      cases sl with
      | v x => exact ⟨rfl, fun s' w' hm => by simp at hm⟩
      | opt s' w' x =>
        obtain ⟨p, hp, hs⟩ := (hT.text i hi).1 s _ ht
        obtain ⟨o, ho, hd⟩ := hT.dst hs (by omega)
        obtain ⟨hpD, _⟩ := h p o ho hd
        obtain ⟨e, k1, k2, _⟩ := hT.at_ p o ho
        have hse : e.sl = some (s, .opt s' w' x) := by unfold slAt at hs; rw [k1] at hs; exact hs
        have hg : ∃ g, o.guard = some (g, w') ∧ (ops[g]?).bind (·.dst) = some s' := by
          cases k2 with
          | store T x y b p v t t' hop hg hd hs' => rw [hs'] at hse; simp at hse
          | plain v hns hg hs' => rw [hs'] at hse; simp at hse
          | guarded v g w s hns hg hgs hl hs' =>
            rw [hs'] at hse; simp at hse
            obtain ⟨a, _, rfl, rfl, rfl, rfl⟩ := hse
            exact ⟨g, hg, hgs⟩
        obtain ⟨g, hg, hgs⟩ := hg
        have hgo : ∃ og, ops[g]? = some og ∧ og.dst = some s' := by
          cases e : ops[g]? with
          | none => simp [e] at hgs
          | some og => rw [e] at hgs; exact ⟨og, rfl, by simpa using hgs⟩
        obtain ⟨og, hog, hod⟩ := hgo
        have hanc := hT.dr.dep g p og o s' hog ho hod (.inr ⟨g, w', hg, rfl⟩)
        have hgp : g < p := anc_lt (hT.dr.lt p (by omega)) hanc
        have hA : ∀ (q : Nat) o', ops[q]? = some o' → o'.dst = some s' → D.getD q false = true ∧ q < i := by
          intro q o' hq hdq
          have : q = g := hT.dr.uniq q g o' og s' hq hog hdq hod
          subst this
          exact ⟨hI.down _ _ hpD hanc, by omega⟩
        obtain ⟨c1, c2⟩ := chain_agree hT hI hi n s' hA
        refine ⟨by dsimp only; rw [c1], fun s2 w2 hm => ?_⟩
        dsimp only at hm
        rcases List.mem_cons.1 hm with e | hm
        · simp at e; obtain ⟨rfl, rfl⟩ := e; exact agree hT hI hi hA
        · exact c2 s2 w2 hm

theorem guardB_congr {env : List (Tmp × SV)} {L L' : List (Tmp × Sl)} : ∀ (ch : List (Tmp × Bool)), (∀ s w, (s, w) ∈ ch → lookL L s = lookL L' s) → guardB env L ch = guardB env L' ch
  | [], _ => rfl
  | (s, w) :: l, h => by
    simp only [guardB]
    rw [evT_congr (h s w (by simp)), guardB_congr l fun s' w' hm => h s' w' (by simp [hm])]

theorem FrL.congr {S : Sig} {env : List (Tmp × SV)} {L L' : List (Tmp × Sl)} {a : Act} (h : FrL S env L a) (e : ∀ t, lookL L' t = lookL L t) : FrL S env L' a :=
  ⟨fun t x hl => h.v t x (by rw [← e]; exact hl), fun t s w x hl => h.o1 t s w x (by rw [← e]; exact hl), fun t s w x hl => h.o2 t s w x (by rw [← e]; exact hl),
   fun t s w x hl => by rw [e]; exact h.o3 t s w x (by rw [← e]; exact hl), fun t hl => h.e t (by rw [← e]; exact hl)⟩
end

end Go.Sx
