/- SxD5: every order of such a region ends where the text's order does. -/
import Derived.Test.YtmgaphghjhbhhaaSxD4
namespace Go.Sx
set_option linter.unusedVariables false
set_option linter.unusedSimpArgs false

theorem fresh_of_none : ∀ {l : List (Tmp × Sl)} {s : Tmp}, lookL l s = none → fresh l s = true
  | [], s, _ => rfl
  | (s', y) :: l, s, he => by
    by_cases hq : s' = s
    · subst hq; rw [lookL_cons_eq] at he; simp at he
    · rw [lookL_cons_ne hq] at he
      have : Nat.beq s' s = false := by
        cases e : Nat.beq s' s with
        | false => rfl
        | true => exact (hq (Nat.eq_of_beq_eq_true e)).elim
      simp only [fresh, this, fresh_of_none he]; rfl

/-- The places not yet done. -/
def cnt (D : Array Bool) : Nat → Nat
  | 0 => 0
  | m + 1 => cnt D m + if D.getD m false = true then 0 else 1

theorem cnt_set_ge {D : Array Bool} {i : Nat} : ∀ (m : Nat), m ≤ i → cnt (D.setIfInBounds i true) m = cnt D m
  | 0, _ => rfl
  | m + 1, h => by simp only [cnt]; rw [cnt_set_ge m (by omega), getD_set_ne false (by omega)]
theorem cnt_set {D : Array Bool} {i : Nat} (hi : i < D.size) (h : D.getD i false = false) : ∀ (m : Nat), i < m → cnt (D.setIfInBounds i true) m + 1 = cnt D m
  | 0, hm => by omega
  | m + 1, hm => by
    simp only [cnt]
    by_cases e : i = m
    · subst e
      have : (D.setIfInBounds i true).getD i false = true := by
        rw [Array.getD_eq_getD_getElem?]; simp [hi]
      rw [this, h, cnt_set_ge i (Nat.le_refl _)]; simp
    · rw [getD_set_ne false e]
      have := cnt_set hi h m (by omega)
      omega
theorem cnt_zero {D : Array Bool} : ∀ (m : Nat), cnt D m = 0 → ∀ j, j < m → D.getD j false = true
  | 0, _, j, hj => by omega
  | m + 1, h, j, hj => by
    simp only [cnt] at h
    by_cases e : D.getD m false = true
    · rcases Nat.lt_or_ge j m with h' | h'
      · exact cnt_zero m (by omega) j h'
      · have : j = m := by omega
        subst this; exact e
    · rw [if_neg e] at h; omega
theorem cnt_le {D : Array Bool} : ∀ (m : Nat), cnt D m ≤ m
  | 0 => Nat.le_refl _
  | m + 1 => by simp only [cnt]; have := cnt_le (D := D) m; split <;> omega

section
variable {E : Env} {nt : Nat} {ops : Array Oper} {env : List (Tmp × SV)} {tr : List Ent} {M0 : Mem} {D : Array Bool} {L : List (Tmp × Sl)} {k : Nat}

/-- When none is ready, all are done. -/
theorem all_done (hT : Tel E nt ops env tr M0) (hI : Inv ops tr D L k) (h : Region.ready .any ops D = []) : ∀ (n j : Nat), j < n → j < ops.size → D.getD j false = true
  | 0, j, hj, _ => by omega
  | n + 1, j, hj, hl => by
    rcases Nat.lt_or_ge j n with h' | h'
    · exact all_done hT hI h n j h' hl
    · have e : j = n := by omega
      subst e
      refine Classical.byContradiction fun hn => ?_
      have ho : ops[j]? = some ops[j] := Array.getElem?_eq_getElem hl
      have hm := hT.dr.lt j hl
      have : j ∈ Region.ready .any ops D := by
        refine mem_ready.2 ⟨?_, _, ho, fun e he hb => ?_⟩
        · have hs : j < D.size := by rw [hI.sz]; exact hl
          rw [Array.getD_eq_getD_getElem?, Array.getElem?_eq_getElem hs] at hn ⊢
          simpa using hn
        · have ha : anc ops e.on j = true := (anc_iff ho hm).2 ⟨e, by simpa using he, hb, .inl rfl⟩
          have hlt := anc_lt hm ha
          exact all_done hT hI h j e.on hlt (by omega)
      rw [h] at this; simp at this

theorem Inv.step (hT : Tel E nt ops env tr M0) (hI : Inv ops tr D L k) {i : Nat} {o : Oper} (ho : ops[i]? = some o) (hD : D.getD i false = false) (ha : ∀ p, anc ops p i = true → D.getD p false = true) {k' : Nat} (hk : k' ≤ ops.size)
    (hlo : ∀ (r : Nat) o, ops[r]? = some o → isStore o.op = true → r < k' → D.getD r false = true ∨ r = i)
    (hhi : ∀ (r : Nat) o, ops[r]? = some o → isStore o.op = true → k' ≤ r → D.getD r false = false ∧ r ≠ i) :
    Inv ops tr (D.setIfInBounds i true) ((slAt tr i).toList ++ L) k' := by
  have hlt : i < ops.size := (Array.getElem?_eq_some_iff.1 ho).1
  have hii : (D.setIfInBounds i true).getD i false = true := by
    rw [Array.getD_eq_getD_getElem?]; simp [hI.sz, hlt]
  have hin : ∀ j, (D.setIfInBounds i true).getD j false = true → j = i ∨ D.getD j false = true := by
    intro j hj
    by_cases e : i = j
    · exact .inl e.symm
    · rw [getD_set_ne false e] at hj; exact .inr hj
  have hup : ∀ j, D.getD j false = true → (D.setIfInBounds i true).getD j false = true := fun j hj => getD_set_true hj
  have huniq : ∀ p t s s', slAt tr i = some (t, s) → slAt tr p = some (t, s') → D.getD p false = true → False := by
    intro p t s s' h1 h2 hp
    obtain ⟨o1, a1, b1⟩ := hT.dst h1 hlt
    obtain ⟨o2, a2, b2⟩ := hT.dst h2 (by rw [← hI.sz]; exact getD_lt hp)
    have := hT.dr.uniq i p o1 o2 t a1 a2 b1 b2
    subst this
    rw [hD] at hp; simp at hp
  refine ⟨by simp [hI.sz], ?_, ?_, ?_, hk, ?_, ?_⟩
  · intro p j hj hp
    rcases hin j hj with rfl | hj
    · exact hup _ (ha p hp)
    · exact hup _ (hI.down p j hj hp)
  · intro p t s hp hs
    rcases hin p hp with rfl | hp
    · rw [hs]; exact lookL_cons_eq
    · have h1 := hI.il p t s hp hs
      cases e : slAt tr i with
      | none => simpa using h1
      | some x =>
        obtain ⟨d, s0⟩ := x
        show lookL ((d, s0) :: L) t = _
        rw [lookL_cons_ne]
        · exact h1
        · rintro rfl; exact huniq p d s0 s e hs hp
  · intro t s hl
    cases e : slAt tr i with
    | none =>
      rw [e] at hl
      obtain ⟨p, h1, h2⟩ := hI.in_ t s (by simpa using hl)
      exact ⟨p, hup _ h1, h2⟩
    | some x =>
      obtain ⟨d, s0⟩ := x
      rw [e] at hl
      change lookL ((d, s0) :: L) t = _ at hl
      by_cases q : d = t
      · subst q; rw [lookL_cons_eq] at hl; simp at hl; subst hl
        exact ⟨i, hii, e⟩
      · rw [lookL_cons_ne q] at hl
        obtain ⟨p, h1, h2⟩ := hI.in_ t s hl
        exact ⟨p, hup _ h1, h2⟩
  · intro r o' hr hs hlt'
    rcases hlo r o' hr hs hlt' with h | h
    · exact hup _ h
    · subst h; exact hii
  · intro r o' hr hs hge
    obtain ⟨h1, h2⟩ := hhi r o' hr hs hge
    rw [getD_set_ne false (Ne.symm h2)]; exact h1

/-- A place whose reads lie apart from what is stored out of turn reads as in the text. -/
theorem mem_agree (hT : Tel E nt ops env tr M0) (hI : Inv ops tr D L k) {i : Nat} (hi : i < ops.size) (hD : D.getD i false = false) (ha : ∀ p, anc ops p i = true → D.getD p false = true ∧ p < i)
    {e : Ent} (he : tr[i]? = some e) {b : Nat} {p : List PStep} (hf : e.ft = some (b, p)) : memG (Mat tr M0 k) b p = memG (Mat tr M0 i) b p := by
  have hst : ∀ (r : Nat) er c q, tr[r]? = some er → er.st = some (c, q) → r < ops.size → ∃ o, ops[r]? = some o ∧ isStore o.op = true := by
    intro r er c q h1 h2 hr
    obtain ⟨e', k1, k2, _⟩ := hT.at_ r _ (Array.getElem?_eq_getElem hr)
    rw [h1] at k1; simp at k1; subst k1
    refine ⟨_, Array.getElem?_eq_getElem hr, ?_⟩
    cases k2 with
    | store T x y b p v t t' hop => rw [hop]; rfl
    | plain v hns hg hs' hM hst => rw [hst] at h2; simp at h2
    | guarded v g w s hns hg hgs hl hs' hM hst => rw [hst] at h2; simp at h2
  rcases Nat.le_total k i with hki | hki
  · have := hT.range (b := b) (p := p) (i - k) k (by omega) (fun r er c q h1 h2 h3 h4 => ?_)
    · rw [show k + (i - k) = i by omega] at this; exact this.symm
    · obtain ⟨o, ho, hs⟩ := hst r er c q h3 h4 (by omega)
      have hr := hI.hi r o ho hs h1
      rcases hT.ap i r e er b p c q he h3 hf h4 with h | h | h
      · have := anc_lt (hT.dr.lt r (by omega)) h; omega
      · rw [(ha r h).1] at hr; simp at hr
      · exact h
  · have := hT.range (b := b) (p := p) (k - i) i (by have := hI.kle; omega) (fun r er c q h1 h2 h3 h4 => ?_)
    · rw [show i + (k - i) = k by omega] at this; exact this
    · have hkl := hI.kle
      obtain ⟨o, ho, hs⟩ := hst r er c q h3 h4 (by omega)
      have hr := hI.lo r o ho hs (by omega)
      rcases hT.ap i r e er b p c q he h3 hf h4 with h | h | h
      · have := hI.down _ _ hr h
        rw [hD] at this; simp at this
      · have := (ha r h).2; omega
      · exact h

theorem any_sound (hE : EnvOK E) (hgam : GamOK E) (hT : Tel E nt ops env tr M0) {Q : Exit → Act → World → Prop} : ∀ (n : Nat) (D : Array Bool) (L : List (Tmp × Sl)) (k : Nat) (S : Sig) (a : Act) (w : World),
    cnt D ops.size ≤ n → Inv ops tr D L k → Glob E S → Rep S (Mat tr M0 k) w → FrL S env L a → a.tmps.size = nt → a.defers = [] →
    (∀ S' a' w', Ext S S' → Rep S' (Mat tr M0 ops.size) w' → FrL S' env (locT tr [] ops.size) a' → a'.tmps.size = nt → a'.defers = [] → Q .normal a' w') → wpAny E.P .any ops Q n D a w := by
  have done : ∀ (D : Array Bool) (L : List (Tmp × Sl)) (k : Nat) (S : Sig) (a : Act) (w : World), Inv ops tr D L k → Rep S (Mat tr M0 k) w → FrL S env L a → a.tmps.size = nt → a.defers = [] →
      (∀ S' a' w', Ext S S' → Rep S' (Mat tr M0 ops.size) w' → FrL S' env (locT tr [] ops.size) a' → a'.tmps.size = nt → a'.defers = [] → Q .normal a' w') → (∀ j, j < ops.size → D.getD j false = true) → Q .normal a w := by
    intro D L k S a w hI hR hF hz hd hQ hall
    refine hQ S a w (Ext.refl S) ?_ ?_ hz hd
    · have := hT.same (ops.size - k) k (by have := hI.kle; omega) (fun r h1 h2 o ho => ?_)
      · rw [show k + (ops.size - k) = ops.size by have := hI.kle; omega] at this
        rw [this]; exact hR
      · cases hs : isStore o.op with
        | false => rfl
        | true =>
          have := hI.hi r o ho hs h1
          rw [hall r (Array.getElem?_eq_some_iff.1 ho).1] at this; simp at this
    · refine hF.congr fun t => (agree hT hI (Nat.le_refl _) fun p o ho hdst => ?_).symm
      have hp : p < ops.size := (Array.getElem?_eq_some_iff.1 ho).1
      exact ⟨hall p hp, hp⟩
  intro n
  induction n with
  | zero =>
    intro D L k S a w hc hI hG hR hF hz hd hQ
    have hall := cnt_zero ops.size (by omega : cnt D ops.size = 0)
    refine ⟨?_, done D L k S a w hI hR hF hz hd hQ hall⟩
    cases hr : Region.ready .any ops D with
    | nil => rfl
    | cons i l =>
      have : i ∈ Region.ready .any ops D := by rw [hr]; simp
      obtain ⟨o, _, hi, hD, _⟩ := ready_out hT hI this
      rw [hall i hi] at hD; simp at hD
  | succ n ih =>
    intro D L k S a w hc hI hG hR hF hz hd hQ
    refine ⟨fun hr => done D L k S a w hI hR hF hz hd hQ (fun j hj => all_done hT hI hr _ j (Nat.lt_succ_self j) hj), fun i hi => ?_⟩
    obtain ⟨o, ho, hlt, hD, hanc⟩ := ready_out hT hI hi
    obtain ⟨e, he, hok, hM, hM', hloc, hfr⟩ := hT.at_ i o ho
    have hsl : slAt tr i = e.sl := by unfold slAt; rw [he]; rfl
    have hcn : cnt (D.setIfInBounds i true) ops.size ≤ n := by
      have := cnt_set (by rw [hI.sz]; exact hlt) hD ops.size hlt
      omega
    -- what is read agrees with the text
    have hops : ∀ t, .tmp t ∈ o.op.operands → lookL L t = lookL (locT tr [] i) t := fun t ht =>
      agree hT hI (by omega) fun p op hp hdst => hanc p (hT.dr.dep p i op o t hp ho hdst (.inl ht))
    have hev : ∀ x ∈ o.op.operands, ∀ ch, evO E.glob env L ch x = evO E.glob env (locT tr [] i) ch x := fun x hx ch =>
      evO_congr fun t et => hops t (et ▸ hx)
    have hfresh : ∀ d s, e.sl = some (d, s) → fresh L d = true := by
      intro d s hs
      refine fresh_of_none ?_
      cases hl : lookL L d with
      | none => rfl
      | some s' =>
        obtain ⟨p, hp, hsp⟩ := hI.in_ d s' hl
        obtain ⟨o1, a1, b1⟩ := hT.dst (p := i) (by rw [hsl]; exact hs) hlt
        obtain ⟨o2, a2, b2⟩ := hT.dst hsp (by rw [← hI.sz]; exact getD_lt hp)
        have := hT.dr.uniq i p o1 o2 d a1 a2 b1 b2
        subst this
        rw [hD] at hp; simp at hp
    unfold wpOp
    rw [ho]
    dsimp only
    -- an operation that is no store
    have quietNext : isStore o.op = false → ∀ (S' : Sig) (v : Value) (w' : World), Ext S S' → Rep S' (Mat tr M0 k) w' → (∀ d s, e.sl = some (d, s) → o.dst = some d) → (e.sl = none → o.dst = none) → (∀ d, o.dst = some d → d < nt) →
        (∀ d sl, e.sl = some (d, sl) → (∀ x, sl = .v x → R S' x v) ∧ ∀ s w x, sl = .opt s w x → lookL L s ≠ none ∧ (a.tmps[s]? = some (.bool w) → R S' x v) ∧ (a.tmps[s]? ≠ some (.bool w) → v = undef)) →
        wpAny E.P .any ops Q n (D.setIfInBounds i true) (a.put o.dst v) w' := by
      intro hns S' v w' hE' hR' h1 h2 h3 h4
      have hI' : Inv ops tr (D.setIfInBounds i true) ((slAt tr i).toList ++ L) k := by
        refine hI.step hT ho hD (fun p hp => (hanc p hp).1) hI.kle (fun r o' hr hs hl => .inl (hI.lo r o' hr hs hl)) (fun r o' hr hs hl => ⟨hI.hi r o' hr hs hl, ?_⟩)
        rintro rfl
        rw [ho] at hr; simp at hr; subst hr
        rw [hns] at hs; simp at hs
      rw [hsl] at hI'
      have hF' : FrL S' env (e.sl.toList ++ L) (a.put o.dst v) := by
        cases hs : e.sl with
        | none => rw [h2 hs]; simpa [Act.put] using hF.ext hE'
        | some x =>
          obtain ⟨d, sl⟩ := x
          have hdd := h1 d sl hs
          obtain ⟨r1, r2⟩ := h4 d sl hs
          rw [hdd]
          exact (hF.ext hE').put (hfresh d sl hs) (by rw [hz]; exact h3 d hdd) r1 r2
      exact ih _ _ k S' _ w' hcn hI' (hG.ext hE') hR' hF' (by rw [put_size]; exact hz) (by rw [put_defers]; exact hd) (fun S2 a2 w2 k1 => hQ S2 a2 w2 (hE'.trans k1))
    cases hok with
    | store T x y b p v t t' hop hg hdst hs hx hy ht hp hz' hM2 hst =>
      rw [if_pos (by simp [Region.wanted, hg])]
      left
      have hstore : isStore o.op = true := by rw [hop]; rfl
      have hki : k ≤ i := by
        rcases Nat.lt_or_ge i k with h | h
        · have := hI.lo i o ho hstore h
          rw [hD] at this; simp at this
        · exact h
      have hsame : Mat tr M0 i = Mat tr M0 k := by
        have := hT.same (i - k) k (by omega) (fun r h1 h2 o' ho' => ?_)
        · rw [show k + (i - k) = i by omega] at this; exact this
        · cases hs' : isStore o'.op with
          | false => rfl
          | true =>
            have h3 := hT.dr.st r i o' o ho' ho hs' hstore (by omega)
            have h4 := hI.hi r o' ho' hs' h1
            rw [(hanc r h3).1] at h4; simp at h4
      have hk : stepK E noCall o env L [] (Mat tr M0 k) (fun _ M' => M' = Mat tr M0 (i + 1)) := by
        have hx' : evO E.glob env L [] x = some (.ptr b p) := by rw [hev x (by simp [hop, Op.operands])]; exact hx
        have hy' : evO E.glob env L [] y = some v := by rw [hev y (by simp [hop, Op.operands])]; exact hy
        have ht' : getM (Mat tr M0 k) b = some t := by rw [← hsame, ← hM]; exact ht
        unfold stepK opK
        rw [hop]
        dsimp only
        rw [hdst, hx', hy']
        dsimp only
        unfold storeK
        dsimp only
        rw [ht']
        dsimp only
        rw [hp]
        dsimp only
        exact onB_in hz' (by rw [hM', hM2, hM, hsame])
      refine stepK_sound hE noCall_ok hG hR hF (by intro _ _ hm; simp at hm) hk ?_
      intro S' sv M' v' w' e1 e2 e3 e4
      subst e3
      have hI' : Inv ops tr (D.setIfInBounds i true) ((slAt tr i).toList ++ L) (i + 1) := by
        refine hI.step hT ho hD (fun p hp => (hanc p hp).1) (by omega) (fun r o' hr hs hl => ?_) (fun r o' hr hs hl => ⟨?_, by omega⟩)
        · rcases Nat.lt_or_ge r i with h | h
          · exact .inl (hanc r (hT.dr.st r i o' o hr ho hs hstore h)).1
          · exact .inr (by omega)
        · exact hI.hi r o' hr hs (by omega)
      rw [hsl, hs] at hI'
      have hF' : FrL S' env L (a.put o.dst v') := by
        rw [hdst]; simpa [Act.put] using hF.ext e1
      exact ih _ _ (i + 1) S' _ w' hcn hI' (hG.ext e1) e2 hF' (by rw [put_size]; exact hz) (by rw [put_defers]; exact hd) (fun S2 a2 w2 k1 => hQ S2 a2 w2 (e1.trans k1))
    | plain v hns hg hs hM2 hst hd3 hft hr =>
      rw [if_pos (by simp [Region.wanted, hg])]
      left
      have h1 := hr (fun sv => sv = v) rfl
      have h2 : stepD E o env L [] (Mat tr M0 k) (fun sv => sv = v) := by
        refine stepD_congr hops (fun b p hf => ?_) h1
        rw [hM]
        exact mem_agree hT hI hlt hD hanc he (by rw [hft]; exact hf)
      refine stepD_sound hE hgam hG hR hF (by intro _ _ hm; simp at hm) h2 ?_
      intro S' sv v' w' e1 e2 e3 e4
      subst e3
      refine quietNext hns S' v' w' e1 e2 ?_ ?_ hd3 ?_
      · intro d s h; rw [hs] at h; simp at h; obtain ⟨d', h1, h2, _⟩ := h; rw [h1, h2]
      · intro h; rw [hs] at h; simpa using h
      · intro d sl h
        rw [hs] at h; simp at h
        obtain ⟨d', h1, h2, h3⟩ := h
        subst h3
        refine ⟨fun x hx => ?_, fun s w x hx => by simp at hx⟩
        simp at hx; subst hx
        rcases e4 with e4 | e4
        · rw [h1] at e4; simp at e4
        · exact e4
    | guarded v g wn s hns hg hgs hl hs hM2 hst hd3 hr =>
      obtain ⟨og, hog, hod⟩ : ∃ og, ops[g]? = some og ∧ og.dst = some s := by
        cases eg : ops[g]? with
        | none => simp [eg] at hgs
        | some og => rw [eg] at hgs; exact ⟨og, rfl, by simpa using hgs⟩
      have hA : ∀ (p : Nat) o', ops[p]? = some o' → o'.dst = some s → D.getD p false = true ∧ p < i := by
        intro p o' hp hdp
        have : p = g := hT.dr.uniq p g o' og s hp hog hdp hod
        subst this
        exact hanc p (hT.dr.dep p i og o s hog ho hod (.inr ⟨p, wn, hg, rfl⟩))
      have hsA := agree hT hI (by omega : i ≤ ops.size) hA
      obtain ⟨c1, c2⟩ := chain_agree hT hI (by omega : i ≤ ops.size) 8 s hA
      have hls : lookL L s ≠ none := by rw [hsA]; exact hl
      by_cases hw : Region.wanted o (yielded ops a.tmps) = true
      · rw [if_pos hw]
        left
        have hb := (wanted_some hg hgs).1 hw
        have hc : ChH ((s, wn) :: chain (locT tr [] i) 8 s) a := by rw [← c1]; exact ChH.cons hb (chain_holds hF 8 s wn hb)
        rcases hr with ⟨hft, hr⟩ | hr
        · have h1 := hr (fun sv => sv = v) rfl
          have h2 : stepD E o env L ((s, wn) :: chain (locT tr [] i) 8 s) (Mat tr M0 k) (fun sv => sv = v) := by
            refine stepD_congr hops (fun b p hf => ?_) h1
            rw [hM]
            exact mem_agree hT hI hlt hD hanc he (by rw [hft]; exact hf)
          refine stepD_sound hE hgam hG hR hF hc h2 ?_
          intro S' sv v' w' e1 e2 e3 e4
          subst e3
          refine quietNext hns S' v' w' e1 e2 ?_ ?_ hd3 ?_
          · intro d s h; rw [hs] at h; simp at h; obtain ⟨d', h1, h2, _⟩ := h; rw [h1, h2]
          · intro h; rw [hs] at h; simpa using h
          · intro d sl h
            rw [hs] at h; simp at h
            obtain ⟨d', h1, h2, h3⟩ := h
            subst h3
            refine ⟨fun x hx => by simp at hx, fun s w x hx => ?_⟩
            simp at hx; obtain ⟨rfl, rfl, rfl⟩ := hx
            refine ⟨hls, fun _ => ?_, fun hne => (hne hb).elim⟩
            rcases e4 with e4 | e4
            · rw [h1] at e4; simp at e4
            · exact e4
        · have : guardB env L ((s, wn) :: chain (locT tr [] i) 8 s) = some false := by
            rw [← hr]
            refine guardB_congr _ fun s' w' hm => ?_
            rcases List.mem_cons.1 hm with e | hm
            · simp at e; obtain ⟨rfl, rfl⟩ := e; exact hsA
            · exact c2 s' w' hm
          have := guardB_true hF _ _ this hc
          simp at this
      · rw [if_neg hw]
        have hb : a.tmps[s]? ≠ some (.bool wn) := fun e => hw ((wanted_some hg hgs).2 e)
        refine quietNext hns S undef w (Ext.refl S) hR ?_ ?_ hd3 ?_
        · intro d s h; rw [hs] at h; simp at h; obtain ⟨d', h1, h2, _⟩ := h; rw [h1, h2]
        · intro h; rw [hs] at h; simpa using h
        · intro d sl h
          rw [hs] at h; simp at h
          obtain ⟨d', h1, h2, h3⟩ := h
          subst h3
          refine ⟨fun x hx => by simp at hx, fun s w x hx => ?_⟩
          simp at hx; obtain ⟨rfl, rfl, rfl⟩ := hx
          exact ⟨hls, fun e => (hb e).elim, fun _ => rfl⟩
end

/-- Every order of such a region. -/
theorem regDK_sound {E : Env} (hE : EnvOK E) (hgam : GamOK E) {nt : Nat} {ops : Array Oper} {Q : Exit → Act → World → Prop} {S : Sig} {env : List (Tmp × SV)} {M : Mem} {K : List (Tmp × Sl) → Mem → Prop} {a : Act} {w : World}
    (hdr : drOK ops = true) (hk : regDK E nt ops ops.toList 0 [] env M [] [] K) (hG : Glob E S) (hR : Rep S M w) (hF : FrL S env [] a) (hz : a.tmps.size = nt) (hd : a.defers = [])
    (hQ : ∀ S' loc' M' a' w', Ext S S' → Rep S' M' w' → FrL S' env loc' a' → a'.tmps.size = nt → a'.defers = [] → K loc' M' → Q .normal a' w') :
    wpAny E.P .any ops Q ops.size (Array.replicate ops.size false) a w := by
  obtain ⟨tr, locF, MF, rdF, wrF, t1, t2, t3, _, _, t6, t7⟩ := regDK_trace _ _ _ _ _ _ _ hk
  obtain ⟨a1, a2, a3, a4⟩ := Trace.at t1
  have hT : Tel E nt ops env tr M := by
    refine ⟨dr_of hdr, fun j o ho => a4 j o (by simpa using ho), ?_⟩
    intro i r ei er b p c q h1 h2 h3 h4
    have f1 := t6 _ (feet_mem (j := 0) h1 h3)
    have f2 := t7 _ (sts_mem (j := 0) h2 h4)
    simp only [Nat.zero_add] at f1 f2
    exact disjAll_iff.1 t3 i b p f1 r c q f2
  have hsz : ops.toList.length = ops.size := by simp
  rw [hsz] at a2 a3
  have hrep : ∀ j, (Array.replicate ops.size false).getD j false = false := by
    intro j
    rw [Array.getD_eq_getD_getElem?, Array.getElem?_replicate]
    split <;> rfl
  refine any_sound hE hgam hT ops.size _ [] 0 S a w (cnt_le _) ⟨by simp, ?_, ?_, ?_, by omega, ?_, ?_⟩ hG (by cases tr <;> exact hR) hF hz hd ?_
  · intro i j h; rw [hrep] at h; simp at h
  · intro p t s h; rw [hrep] at h; simp at h
  · intro t s h; simp [lookL] at h
  · intro i o h1 h2 h3; omega
  · intro i o h1 h2 h3; exact hrep i
  · intro S' a' w' e1 e2 e3 e4 e5
    rw [← a3] at e2
    rw [← a2] at e3
    exact hQ S' locF MF a' w' e1 e2 e3 e4 e5 t2

end Go.Sx
