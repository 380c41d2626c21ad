/- SxD2: regions whose order is open: what the text's order tells holds of every order. -/
import Derived.Test.YtmgaphghjhbhhaaSxD1
import Derived.Orders
namespace Go.Sx
set_option linter.unusedVariables false
set_option linter.unusedSimpArgs false

/-! ### The edges -/
def stepM (acc : Array Nat) (o : Oper) : Nat := o.after.foldl (fun s e => if Region.binds .any e then s ||| 2 ^ e.on ||| acc.getD e.on 0 else s) 0

theorem before_list (ops : Array Oper) : Region.before ops = ops.toList.foldl (fun acc o => acc.push (stepM acc o)) #[] := by
  unfold Region.before stepM
  rw [← Array.foldl_toList]

theorem foldl_push_get {f : Array Nat → Oper → Nat} : ∀ (l : List Oper) (acc : Array Nat) (j : Nat), j < acc.size → (l.foldl (fun acc o => acc.push (f acc o)) acc)[j]? = acc[j]?
  | [], acc, j, h => rfl
  | o :: l, acc, j, h => by
    simp only [List.foldl_cons]
    rw [foldl_push_get l _ j (by simp; omega), Array.getElem?_push, if_neg (by omega)]
theorem foldl_push_size {f : Array Nat → Oper → Nat} : ∀ (l : List Oper) (acc : Array Nat), (l.foldl (fun acc o => acc.push (f acc o)) acc).size = acc.size + l.length
  | [], acc => rfl
  | o :: l, acc => by simp only [List.foldl_cons]; rw [foldl_push_size l]; simp; omega
theorem foldl_push_at {f : Array Nat → Oper → Nat} : ∀ (l : List Oper) (acc : Array Nat) (i : Nat) (o : Oper), l[i]? = some o →
    ∃ pre : Array Nat, pre.size = acc.size + i ∧ (∀ k, k < pre.size → pre[k]? = (l.foldl (fun acc o => acc.push (f acc o)) acc)[k]?) ∧ (l.foldl (fun acc o => acc.push (f acc o)) acc)[acc.size + i]? = some (f pre o)
  | [], acc, i, o, h => by simp at h
  | x :: l, acc, 0, o, h => by
    simp at h; subst h
    refine ⟨acc, rfl, fun k hk => ?_, ?_⟩
    · simp only [List.foldl_cons]; rw [foldl_push_get l _ k (by simp; omega), Array.getElem?_push, if_neg (by omega)]
    · simp only [List.foldl_cons]; rw [foldl_push_get l _ _ (by simp)]; simp
  | x :: l, acc, i + 1, o, h => by
    simp at h
    obtain ⟨pre, h1, h2, h3⟩ := foldl_push_at (f := f) l (acc.push (f acc x)) i o h
    refine ⟨pre, by rw [h1]; simp; omega, ?_, ?_⟩
    · simpa only [List.foldl_cons] using h2
    · simp only [List.foldl_cons]
      rw [← h3]; congr 1; simp; omega

def mask (ops : Array Oper) (j : Nat) : Nat := (Region.before ops).getD j 0

theorem mask_eq {ops : Array Oper} {j : Nat} {o : Oper} (h : ops[j]? = some o) : ∃ acc : Array Nat, (∀ k, k < j → acc.getD k 0 = mask ops k) ∧ (∀ k, j ≤ k → acc.getD k 0 = 0) ∧ mask ops j = stepM acc o := by
  have h' : ops.toList[j]? = some o := by simpa using h
  obtain ⟨pre, h1, h2, h3⟩ := foldl_push_at (f := stepM) ops.toList #[] j o h'
  rw [show (#[] : Array Nat).size + j = j by simp] at h1 h3
  refine ⟨pre, fun k hk => ?_, fun k hk => ?_, ?_⟩
  · unfold mask; rw [before_list, Array.getD_eq_getD_getElem?, Array.getD_eq_getD_getElem?, h2 k (by omega)]
  · rw [Array.getD_eq_getD_getElem?, Array.getElem?_eq_none (by omega)]; rfl
  · unfold mask; rw [before_list, Array.getD_eq_getD_getElem?, h3]; rfl

theorem foldl_or {acc : Array Nat} {p : Nat} : ∀ (es : List Edge) (s : Nat), ((es.foldl (fun s e => if Region.binds .any e then s ||| 2 ^ e.on ||| acc.getD e.on 0 else s) s).testBit p = true) ↔
    (s.testBit p = true ∨ ∃ e ∈ es, Region.binds .any e = true ∧ (e.on = p ∨ (acc.getD e.on 0).testBit p = true))
  | [], s => by simp
  | e :: es, s => by
    simp only [List.foldl_cons]
    rw [foldl_or es]
    by_cases hb : Region.binds .any e = true
    · simp only [hb, if_true, Nat.testBit_or, Nat.testBit_two_pow, Bool.or_eq_true, decide_eq_true_eq, List.mem_cons, exists_eq_or_imp, true_and]
      constructor
      · rintro ((h | h) | h)
        · rcases h with h | h
          · exact .inl h
          · exact .inr (.inl (.inl h))
        · exact .inr (.inl (.inr h))
        · exact .inr (.inr h)
      · rintro (h | h | h)
        · exact .inl (.inl (.inl h))
        · rcases h with h | h
          · exact .inl (.inl (.inr h))
          · exact .inl (.inr h)
        · exact .inr h
    · have hb' : Region.binds .any e = false := by simpa using hb
      simp [hb', List.mem_cons]

theorem anc_iff {ops : Array Oper} {p j : Nat} {o : Oper} (h : ops[j]? = some o) (hlt : mask ops j < 2 ^ j) : anc ops p j = true ↔ ∃ e ∈ o.after.toList, Region.binds .any e = true ∧ (e.on = p ∨ anc ops p e.on = true) := by
  obtain ⟨acc, h1, h2, h3⟩ := mask_eq h
  have key : anc ops p j = true ↔ ∃ e ∈ o.after.toList, Region.binds .any e = true ∧ (e.on = p ∨ (acc.getD e.on 0).testBit p = true) := by
    show (mask ops j).testBit p = true ↔ _
    rw [h3]
    unfold stepM
    rw [← Array.foldl_toList, foldl_or]
    simp
  have bit : ∀ e ∈ o.after.toList, Region.binds .any e = true → e.on < j := by
    intro e he hb
    have : (mask ops j).testBit e.on = true := by
      rw [h3]; unfold stepM
      rw [← Array.foldl_toList, foldl_or]
      exact .inr ⟨e, he, hb, .inl rfl⟩
    refine Classical.byContradiction fun hn => ?_
    have := Nat.testBit_lt_two_pow (i := e.on) (Nat.lt_of_lt_of_le hlt (Nat.pow_le_pow_right (by omega) (by omega : j ≤ e.on)))
    simp_all
  rw [key]
  constructor
  · rintro ⟨e, he, hb, hp⟩
    refine ⟨e, he, hb, hp.imp id fun hp => ?_⟩
    rw [h1 _ (bit e he hb)] at hp; exact hp
  · rintro ⟨e, he, hb, hp⟩
    refine ⟨e, he, hb, hp.imp id fun hp => ?_⟩
    rw [h1 _ (bit e he hb)]; exact hp

theorem anc_lt {ops : Array Oper} {p j : Nat} (hlt : mask ops j < 2 ^ j) (h : anc ops p j = true) : p < j := by
  refine Classical.byContradiction fun hn => ?_
  have h' : (mask ops j).testBit p = true := h
  have := Nat.testBit_lt_two_pow (i := p) (Nat.lt_of_lt_of_le hlt (Nat.pow_le_pow_right (by omega) (by omega : j ≤ p)))
  simp_all

theorem allN_iff {f : Nat → Bool} : ∀ {n : Nat}, allN f n = true ↔ ∀ j, j < n → f j = true
  | 0 => by simp [allN]
  | n + 1 => by
    simp only [allN, Bool.and_eq_true, allN_iff]
    constructor
    · rintro ⟨h1, h2⟩ j hj
      rcases Nat.lt_or_ge j n with h | h
      · exact h2 j h
      · have : j = n := by omega
        subst this; exact h1
    · intro h; exact ⟨h n (by omega), fun j hj => h j (by omega)⟩

theorem memT_iff : ∀ {l : List Tmp} {t : Tmp}, memT l t = true ↔ t ∈ l
  | [], t => by simp [memT]
  | s :: l, t => by
    simp only [memT, Bool.or_eq_true, memT_iff, List.mem_cons]
    constructor
    · rintro (h | h)
      · exact .inl (Nat.eq_of_beq_eq_true h).symm
      · exact .inr h
    · rintro (h | h)
      · left; subst h; exact Nat.beq_refl t
      · exact .inr h
theorem tmpsOf_mem : ∀ {l : List Operand} {t : Tmp}, t ∈ tmpsOf l ↔ .tmp t ∈ l
  | [], t => by simp [tmpsOf]
  | x :: l, t => by cases x <;> simp [tmpsOf, tmpsOf_mem]

/-- What the check says. -/
structure Dr (ops : Array Oper) : Prop where
  lt : ∀ j, j < ops.size → mask ops j < 2 ^ j
  uniq : ∀ (p j : Nat) a b t, ops[p]? = some a → ops[j]? = some b → a.dst = some t → b.dst = some t → p = j
  dep : ∀ (p j : Nat) a b t, ops[p]? = some a → ops[j]? = some b → a.dst = some t → (.tmp t ∈ b.op.operands ∨ ∃ g w, b.guard = some (g, w) ∧ g = p) → anc ops p j = true
  st : ∀ (p j : Nat) a b, ops[p]? = some a → ops[j]? = some b → isStore a.op = true → isStore b.op = true → p < j → anc ops p j = true

theorem dr_of {ops : Array Oper} (h : drOK ops = true) : Dr ops := by
  unfold drOK at h
  rw [allN_iff] at h
  have hp : ∀ p j a b, ops[p]? = some a → ops[j]? = some b → pairOK ops p j = true := by
    intro p j a b ha hb
    have h1 : j < ops.size := (Array.getElem?_eq_some_iff.1 hb).1
    have h2 : p < ops.size := (Array.getElem?_eq_some_iff.1 ha).1
    have := h j h1
    simp only [Bool.and_eq_true, allN_iff] at this
    exact this.2 p h2
  refine ⟨fun j hj => ?_, ?_, ?_, ?_⟩
  · have := h j hj
    simp only [Bool.and_eq_true] at this
    have h1 := this.1
    unfold mask
    exact Nat.lt_of_lt_of_le (by simpa using h1) (Nat.le_refl _)
  · intro p j a b t ha hb hd hd'
    have := hp p j a b ha hb
    simp only [pairOK, ha, hb, hd, hd', Bool.and_eq_true, Bool.or_eq_true] at this
    rcases this.1.1 with h | h
    · exact Nat.eq_of_beq_eq_true h
    · rw [show Nat.beq t t = true from Nat.beq_refl t] at h; simp at h
  · intro p j a b t ha hb hd hl
    have := hp p j a b ha hb
    simp only [pairOK, ha, hb, hd, Bool.and_eq_true, Bool.or_eq_true] at this
    rcases this.1.2 with h | h
    · exfalso
      rw [Bool.not_eq_true', Bool.or_eq_false_iff] at h
      obtain ⟨e1, e2⟩ := h
      rcases hl with hl | ⟨g, w, hg, e⟩
      · have : memT (tmpsOf b.op.operands.toList) t = true := memT_iff.2 (tmpsOf_mem.2 (by simpa using hl))
        rw [this] at e1; simp at e1
      · subst e
        simp only [hg] at e2
        rw [show Nat.beq g g = true from Nat.beq_refl g] at e2; simp at e2
    · exact h.1
  · intro p j a b ha hb h1 h2 hlt
    have := hp p j a b ha hb
    simp only [pairOK, ha, hb, Bool.and_eq_true, Bool.or_eq_true] at this
    rcases this.2 with h | h
    · have hb : Nat.blt p j = true := by simpa using hlt
      simp [h1, h2, hb] at h
    · exact h

/-! ### Places apart -/
theorem get_put_apart : ∀ (p q : List PStep) (t t' v : SV), diverge p q = true → SV.put t q v = some t' → SV.get t' p = SV.get t p
  | .f k :: p, .f l :: q, t, t', v, hd, h => by
    simp only [diverge, Bool.or_eq_true] at hd
    cases t with
    | agg fs =>
      simp only [SV.put] at h
      cases hg : fs.get l with
      | none => simp [hg] at h
      | some a =>
        simp only [hg] at h
        cases hp : SV.put a q v with
        | none => simp [hp] at h
        | some a' =>
          simp [hp] at h; subst h
          have hset : ∀ (fs : SVs) (l k : Nat) (a : SV), fs.get l = some a → (fs.set l a').get k = if k = l then some a' else fs.get k := by
            intro fs
            induction fs using SVs.rec (motive_1 := fun _ => True) with
            | nil => intro l k a h; simp [SVs.get] at h
            | cons u r _ ih =>
              intro l k a h
              cases l with
              | zero => cases k <;> simp [SVs.set, SVs.get]
              | succ l =>
                cases k with
                | zero => simp [SVs.set, SVs.get]
                | succ k => simp only [SVs.get] at h; simp [SVs.set, SVs.get, ih l k a h]
            | _ => trivial
          simp only [SV.get]
          rw [hset fs l k a hg]
          by_cases e : k = l
          · subst e
            rw [if_pos rfl, hg]
            rcases hd with hd | hd
            · rw [show Nat.beq k k = true from Nat.beq_refl k] at hd; simp at hd
            · exact get_put_apart p q a a' v hd hp
          · rw [if_neg e]
    | _ => simp [SV.put] at h
  | [], _, _, _, _, hd, _ => by simp [diverge] at hd
  | .x _ :: _, _, _, _, _, hd, _ => by simp [diverge] at hd
  | .f _ :: _, [], _, _, _, hd, _ => by simp [diverge] at hd
  | .f _ :: _, .x _ :: _, _, _, _, hd, _ => by simp [diverge] at hd

theorem memG_apart {M : Mem} {b c : Nat} {p q : List PStep} {t t' v : SV} (hd : (!Nat.beq b c || diverge p q) = true) (hg : getM M c = some t) (hp : SV.put t q v = some t') :
    memG (setM M c t') b p = memG M b p := by
  unfold memG
  rw [getM_eq] at hg
  rw [getM_eq, getM_eq, setM_eq]
  have hc : c < M.length := by
    rcases Nat.lt_or_ge c M.length with h | h
    · exact h
    · simp [List.getElem?_eq_none h] at hg
  by_cases e : c = b
  · subst e
    have hd' : diverge p q = true := by
      rw [show Nat.beq c c = true from Nat.beq_refl c] at hd; simpa using hd
    have h1 : (M.set c t')[c]? = some t' := by simp [hc]
    rw [h1, hg]
    exact get_put_apart p q t t' v hd' hp
  · rw [List.getElem?_set_ne e]

end Go.Sx
