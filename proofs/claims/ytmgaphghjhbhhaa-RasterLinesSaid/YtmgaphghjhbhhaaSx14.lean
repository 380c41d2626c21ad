/- Sx14: what a call is given: the arguments, as symbolic values. -/
import Derived.Test.YtmgaphghjhbhhaaSx13
import Derived.OpenShut
import Derived.Carry
namespace Go.Sx
open Go.RowKit (Below)
set_option linter.unusedVariables false
set_option linter.unusedSimpArgs false

def inK (k : IntKind) (n : Int) : Prop := k.min ≤ n ∧ n ≤ k.max

def IsF (is : TypeId → SV → Prop) : List Field → SVs → Prop
  | [], l => l = .nil
  | f :: fl, l => ∃ a r, l = .cons a r ∧ is f.type a ∧ IsF is fl r

/-- A value that an argument of a type may be. -/
def Is (P : Program) : Nat → TypeId → SV → Prop
  | 0, _, _ => False
  | d + 1, T, sv =>
    match P.underlying T with
    | some .bool => ∃ b, sv = .b b
    | some (.int k) => ∃ n, sv = .i k n ∧ inK k n
    | some (.struct fs) => ∃ l, sv = .agg l ∧ IsF (Is P d) fs.toList l
    | some (.array n e) => (match P.underlying e with
      | some (.int k) => ∃ xs, sv = .arr k n xs ∧ xs.length = n ∧ ∀ x ∈ xs, inK k x
      | _ => False)
    | some (.slice e) => (match P.underlying e with
      | some (.int k) => ∃ xs, sv = .roi k xs ∧ xs.length ≤ maxLen ∧ ∀ x ∈ xs, inK k x
      | _ => ∃ n g, sv = .ros n g ∧ n ≤ maxLen ∧ ∀ j, j < n → Is P d e (g j))
    | _ => False

def okFs (P : Program) (ok : TypeId → Bool) : List Field → Nat → Option Nat
  | [], o => some o
  | f :: fl, o => match Nat.beq f.offset o && ok f.type with
    | true => okFs P ok fl (o + P.cellsOf f.type)
    | false => none

def okT (P : Program) : Nat → TypeId → Bool
  | 0, _ => false
  | d + 1, T =>
    match P.underlying T with
    | some .bool => true
    | some (.int _) => true
    | some (.struct fs) => (match okFs P (okT P d) fs.toList 0 with
      | some n => Nat.beq n (P.cellsOf T)
      | none => false)
    | some (.array n e) => (match P.underlying e with
      | some (.int _) => Nat.beq (P.cellsOf e) 1 && Nat.beq (P.cellsOf T) n
      | _ => false)
    | some (.slice e) => (match P.underlying e with
      | some (.int _) => Nat.beq (P.cellsOf e) 1
      | some _ => okT P d e && !Nat.beq (P.cellsOf e) 0
      | none => false)
    | _ => false

section
variable {H : Type} {enc : TypeId × Value → H} {P : Program} {w : World} {spare : Nat → Bool} {held : Bool}

theorem mapM_get {α β : Type} {f : α → Option β} {l : List α} {r : List β} (h : l.mapM f = some r) : r.length = l.length ∧ ∀ (i : Nat) (a : α), l[i]? = some a → ∃ b, f a = some b ∧ r[i]? = some b := by
  refine ⟨mapM_some_length h, fun i a ha => ?_⟩
  have h1 := mapM_some_get h i a ha
  have hl := mapM_some_length h
  cases hr : r[i]? with
  | none =>
    have : i < l.length := by
      rcases Nat.lt_or_ge i l.length with h | h
      · exact h
      · simp [List.getElem?_eq_none h] at ha
    have := List.getElem?_eq_none_iff.1 hr; omega
  | some b => exact ⟨b, by rw [h1, hr], rfl⟩

theorem trod_succ {fuel : Nat} {T : TypeId} {cs : List Value} {x : DataW H × List MemPlace} (h : DataW.trod enc P w 0 spare held fuel T cs = some x) : ∃ m, fuel = m + 1 := by
  cases fuel with
  | zero => simp [DataW.trod] at h
  | succ m => exact ⟨m, rfl⟩

theorem trod_intCell {fuel : Nat} {T : TypeId} {k : IntKind} {cs : List Value} {x : DataW H × List MemPlace} (hu : P.underlying T = some (.int k)) (h : DataW.trod enc P w 0 spare held fuel T cs = some x) :
    ∃ n, cs = [.int k n] ∧ inK k n := by
  obtain ⟨m, rfl⟩ := trod_succ h
  unfold DataW.trod at h
  simp only [hu] at h
  split at h
  all_goals (first | (simp at h; done) | skip)
  all_goals (try (rename_i hh _; simp at hh; done))
  all_goals (try (rename_i hh; simp at hh; done))
  rename_i k1 k2 n hh
  simp at hh; subst hh
  split at h
  · rename_i hq
    obtain ⟨rfl, hq⟩ := hq
    simp [Lit.wf] at hq
    exact ⟨n, rfl, hq.1, hq.2⟩
  · simp at h

theorem trod_boolCell {fuel : Nat} {T : TypeId} {cs : List Value} {x : DataW H × List MemPlace} (hu : P.underlying T = some .bool) (h : DataW.trod enc P w 0 spare held fuel T cs = some x) :
    ∃ b, cs = [.bool b] := by
  obtain ⟨m, rfl⟩ := trod_succ h
  unfold DataW.trod at h
  simp only [hu] at h
  split at h
  all_goals (first | (simp at h; done) | skip)
  all_goals (try (rename_i hh _; simp at hh; done))
  all_goals (try (rename_i hh; simp at hh; done))
  exact ⟨_, rfl⟩

theorem trod_fields {fuel : Nat} {T : TypeId} {fs : Array Field} {cs : List Value} {x : DataW H × List MemPlace} (hu : P.underlying T = some (.struct fs)) (h : DataW.trod enc P w 0 spare held (fuel + 1) T cs = some x) :
    cs.length = P.cellsOf T ∧ ∃ xs, fs.toList.mapM (fun f => DataW.trod enc P w 0 spare held fuel f.type ((cs.drop f.offset).take (P.cellsOf f.type))) = some xs := by
  unfold DataW.trod at h
  simp only [hu] at h
  split at h
  all_goals (first | (simp at h; done) | skip)
  all_goals (try (rename_i hh _; simp at hh; done))
  all_goals (try (rename_i hh; simp at hh; done))
  rename_i hl
  simp at h
  obtain ⟨xs, hx, _⟩ := h
  exact ⟨hl, xs, hx⟩

theorem trod_slice {fuel : Nat} {T e : TypeId} {cs : List Value} {x : DataW H × List MemPlace} (hu : P.underlying T = some (.slice e)) (h : DataW.trod enc P w 0 spare held (fuel + 1) T cs = some x) :
    cs = [.slice none 0 0] ∨ ∃ a len cap, cs = [.slice (some a) len cap] ∧ len ≤ cap ∧ cap ≤ maxLen ∧
      ∀ j, j < len → ∃ ds y, w.cells? 0 (a.add (j * P.cellsOf e)) (P.cellsOf e) = some ds ∧ DataW.trod enc P w 0 spare held fuel e ds = some y := by
  unfold DataW.trod at h
  simp only [hu] at h
  split at h
  all_goals (first | (simp at h; done) | skip)
  all_goals (try (rename_i hh _; simp at hh; done))
  all_goals (try (rename_i hh; simp at hh; done))
  · exact .inl rfl
  · rename_i e' a len cap hh
    simp at hh; subst hh
    right
    split at h
    · rename_i hq
      refine ⟨a, len, cap, rfl, hq.2.1, hq.2.2, fun j hj => ?_⟩
      simp only [Option.bind_eq_some_iff] at h
      obtain ⟨elems, h1, _⟩ := h
      obtain ⟨_, h2⟩ := mapM_get h1
      obtain ⟨b, hb, _⟩ := h2 j j (by simp [hj])
      simp only [Option.bind_eq_some_iff] at hb
      obtain ⟨ds, d1, d2⟩ := hb
      exact ⟨ds, b, d1, d2⟩
    · simp at h

theorem okFs_le {ok : TypeId → Bool} : ∀ (fl : List Field) (o n : Nat), okFs P ok fl o = some n → o ≤ n
  | [], o, n, h => by simp [okFs] at h; omega
  | f :: fl, o, n, h => by
    simp only [okFs] at h
    split at h
    · have := okFs_le fl _ _ h; omega
    · simp at h

theorem open_fields {S : Sig} {is : TypeId → SV → Prop} {ok : TypeId → Bool} {fuel : Nat}
    (hi : ∀ T cs x, ok T = true → DataW.trod enc P w 0 spare held fuel T cs = some x → ∃ sv, is T sv ∧ Rf S sv cs ∧ sv.cl 0 = true) :
    ∀ (fl : List Field) (o n : Nat) (cs : List Value) (xs : List (DataW H × List MemPlace)), okFs P ok fl o = some n → cs.length = n →
      fl.mapM (fun f => DataW.trod enc P w 0 spare held fuel f.type ((cs.drop f.offset).take (P.cellsOf f.type))) = some xs → ∃ l, IsF is fl l ∧ Rfs S l (cs.drop o) ∧ l.cl 0 = true
  | [], o, n, cs, xs, h1, h2, h3 => by
    simp [okFs] at h1; subst h1
    exact ⟨.nil, rfl, by simp [Rfs, ← h2], rfl⟩
  | f :: fl, o, n, cs, xs, h1, h2, h3 => by
    simp only [okFs] at h1
    split at h1
    · rename_i hq
      simp at hq
      obtain ⟨q1, q2⟩ := hq
      simp only [List.mapM_cons, Option.bind_eq_bind, Option.bind_eq_some_iff] at h3
      obtain ⟨b, hb, r', hr, h⟩ := h3
      obtain ⟨sv, s1, s2, s3⟩ := hi _ _ _ q2 hb
      obtain ⟨l, l1, l2, l3⟩ := open_fields hi fl _ n cs r' h1 h2 hr
      have hle := okFs_le fl _ _ h1
      refine ⟨.cons sv l, ⟨sv, l, rfl, s1, l1⟩, ?_, by simp [SVs.cl, s3, l3]⟩
      simp only [Rfs]
      rw [q1] at s2
      refine ⟨_, _, ?_, s2, l2⟩
      have := (List.take_append_drop (P.cellsOf f.type) (cs.drop o)).symm
      rw [List.drop_drop] at this; exact this
    · simp at h1

theorem cells_old {a : Addr} {n : Nat} {ds : List Value} {S : Sig} (hW : S.W = w) (hn : n ≠ 0) (h : w.cells? 0 a n = some ds) : Old S a ds := by
  obtain ⟨_, h2, h3⟩ := World.cells?_some h
  refine ⟨?_, fun j v hj => ?_⟩
  · have := h3 0 (by omega)
    have h0 : a.add 0 = a := by simp [Addr.add]
    rw [h0] at this
    rw [hW]
    exact block_lt_of_cell (by rw [this]; exact List.getElem?_eq_getElem (by omega))
  · have hlt : j < n := by
      rcases Nat.lt_or_ge j ds.length with h | h
      · omega
      · simp [List.getElem?_eq_none h] at hj
    rw [hW, h3 j hlt]; exact hj

theorem open_cells {S : Sig} (hW : S.W = w) : ∀ (d : Nat) (T : TypeId) (fuel : Nat) (cs : List Value) (x : DataW H × List MemPlace), okT P d T = true → DataW.trod enc P w 0 spare held fuel T cs = some x →
    ∃ sv, Is P d T sv ∧ Rf S sv cs ∧ sv.cl 0 = true
  | 0, T, fuel, cs, x, h, hx => by simp [okT] at h
  | d + 1, T, fuel, cs, x, h, hx => by
    simp only [okT] at h
    simp only [Is]
    cases hu : P.underlying T with
    | none => simp [hu] at h
    | some u =>
      cases u <;> simp only [hu] at h <;> (try (simp at h; done))
      · obtain ⟨b, rfl⟩ := trod_boolCell hu hx
        exact ⟨.b b, ⟨b, rfl⟩, by simp [Rf], rfl⟩
      · rename_i k
        obtain ⟨n, rfl, hn⟩ := trod_intCell hu hx
        exact ⟨.i k n, ⟨n, rfl, hn⟩, by simp [Rf], rfl⟩
      · rename_i e
        obtain ⟨m, rfl⟩ := trod_succ hx
        have hs := trod_slice hu hx
        split at h
        · rename_i k hk
          simp at h
          rcases hs with rfl | ⟨a, len, cap, rfl, h1, h2, h3⟩
          · exact ⟨.roi k [], by simp [hk, maxLen], by simp [Rf], rfl⟩
          · have hel : ∀ j, j < len → ∃ n, inK k n ∧ w.cell? (a.add j) = some (.int k n) := by
              intro j hj
              obtain ⟨ds, y, d1, d2⟩ := h3 j hj
              obtain ⟨n, rfl, hn⟩ := trod_intCell hk d2
              rw [h, Nat.mul_one] at d1
              obtain ⟨_, _, d3⟩ := World.cells?_some d1
              have := d3 0 (by omega)
              rw [Addr.add_add] at this
              exact ⟨n, hn, by simpa using this⟩
            let f : Nat → Int := fun j => if hj : j < len then (hel j hj).choose else 0
            have hf : ∀ j (hj : j < len), inK k (f j) ∧ w.cell? (a.add j) = some (.int k (f j)) := by
              intro j hj
              have := (hel j hj).choose_spec
              simp only [f, dif_pos hj]; exact this
            refine ⟨.roi k ((List.range len).map f), ?_, ?_, rfl⟩
            · simp only [hk]
              refine ⟨_, rfl, by simp; omega, ?_⟩
              intro y hy
              simp at hy
              obtain ⟨j, hj, rfl⟩ := hy
              exact (hf j hj).1
            · simp only [Rf]
              refine ⟨some a, cap, by simpa using h1, by simp, by simp, fun a' e => ?_⟩
              simp at e; subst e
              rcases Nat.eq_zero_or_pos len with h0 | h0
              · left; simp [h0]
              · right
                refine ⟨?_, fun j v hj => ?_⟩
                · have := (hf 0 h0).2
                  rw [show a.add 0 = a by simp [Addr.add]] at this
                  rw [hW]; exact block_lt_of_cell this
                · have hlt : j < len := by
                    rcases Nat.lt_or_ge j len with h | h
                    · exact h
                    · rw [List.getElem?_eq_none (by simpa using h)] at hj; simp at hj
                  simp [hlt] at hj
                  rw [hW, (hf j hlt).2, hj]
        · rename_i u' hnk hk
          simp at h
          have hz : P.cellsOf e ≠ 0 := nbeq0 h.2
          have ih := open_cells (S := S) hW d e m
          have fin : ∀ (n : Nat) (g : Nat → SV), n ≤ maxLen → (∀ j, j < n → Is P d e (g j)) → (match P.underlying e with
              | some (.int k) => ∃ xs, SV.ros n g = .roi k xs ∧ xs.length ≤ maxLen ∧ ∀ x ∈ xs, inK k x
              | _ => ∃ n' g', SV.ros n g = .ros n' g' ∧ n' ≤ maxLen ∧ ∀ j, j < n' → Is P d e (g' j)) := by
            intro n g h1 h2
            cases u' <;> simp only [hk] <;> first
              | exact ⟨n, g, rfl, h1, h2⟩
              | exact (hnk _ hk).elim
              | exact (hnk _ rfl).elim
          rcases hs with rfl | ⟨a, len, cap, rfl, h1, h2, h3⟩
          · exact ⟨.ros 0 (fun _ => .nilp), fin 0 _ (by simp [maxLen]) (fun j hj => by omega), by simp [Rf], rfl⟩
          · have hel : ∀ j, j < len → ∃ sv ds, Is P d e sv ∧ Rf S sv ds ∧ sv.cl 0 = true ∧ w.cells? 0 (a.add (j * P.cellsOf e)) (P.cellsOf e) = some ds := by
              intro j hj
              obtain ⟨ds, y, d1, d2⟩ := h3 j hj
              obtain ⟨sv, s1, s2, s3⟩ := ih ds y h.1 d2
              exact ⟨sv, ds, s1, s2, s3, d1⟩
            let g : Nat → SV := fun j => if hj : j < len then (hel j hj).choose else .nilp
            have hg : ∀ j (hj : j < len), ∃ ds, Is P d e (g j) ∧ Rf S (g j) ds ∧ (g j).cl 0 = true ∧ w.cells? 0 (a.add (j * P.cellsOf e)) (P.cellsOf e) = some ds := by
              intro j hj
              have := (hel j hj).choose_spec
              simp only [g, dif_pos hj]; exact this
            refine ⟨.ros len g, fin len g (by omega) (fun j hj => (hg j hj).choose_spec.1), ?_, rfl⟩
            simp only [Rf]
            refine ⟨some a, cap, h1, rfl, by simp, fun j hj => ?_⟩
            obtain ⟨ds, z1, z2, z3, z4⟩ := hg j hj
            refine ⟨z3, ds, z2, fun a' e' => ?_⟩
            simp at e'; subst e'
            have hsz : (g j).size = P.cellsOf e := by rw [← Rf_len _ _ z2, (World.cells?_some z4).2.1]
            rw [hsz]
            exact cells_old hW hz z4
        · simp at h
      · rename_i n e
        split at h
        · rename_i k hk
          simp at h
          obtain ⟨h1, h2⟩ := h
          obtain ⟨xs, m, rfl, _, hl, hx1, hx2⟩ := DataW.trod_array hu hx
          have hel : ∀ j, j < n → ∃ v, inK k v ∧ cs[j]? = some (.int k v) := by
            intro j hj
            have := hx2 j hj
            rw [List.getElem?_eq_getElem (by omega)] at this
            obtain ⟨v, e1, e2⟩ := trod_intCell hk this
            refine ⟨v, e2, ?_⟩
            have h0 := congrArg (fun l => l[0]?) e1
            rw [h1, Nat.mul_one, List.getElem?_take] at h0
            simpa using h0
          let f : Nat → Int := fun j => if hj : j < n then (hel j hj).choose else 0
          have hf : ∀ j (hj : j < n), inK k (f j) ∧ cs[j]? = some (.int k (f j)) := by
            intro j hj
            have := (hel j hj).choose_spec
            simp only [f, dif_pos hj]; exact this
          refine ⟨.arr k n ((List.range n).map f), ?_, ?_, rfl⟩
          · simp only [hk]
            refine ⟨_, rfl, by simp, ?_⟩
            intro y hy
            simp at hy
            obtain ⟨j, hj, rfl⟩ := hy
            exact (hf j hj).1
          · simp only [Rf]
            refine ⟨by simp, ?_⟩
            apply List.ext_getElem?
            intro j
            by_cases hj : j < n
            · rw [(hf j hj).2]; simp [hj]
            · rw [List.getElem?_eq_none (by omega), List.getElem?_eq_none (by simp; omega)]
        · simp at h
      · rename_i fs
        obtain ⟨m, rfl⟩ := trod_succ hx
        obtain ⟨hl, xs, hm⟩ := trod_fields hu hx
        split at h
        · rename_i n hn
          simp at h
          obtain ⟨l, l1, l2, l3⟩ := open_fields (S := S) (is := Is P d) (ok := okT P d) (fun T cs x => open_cells hW d T m cs x) fs.toList 0 n cs xs hn (by omega) hm
          exact ⟨.agg l, ⟨l, rfl, l1⟩, by simpa [Rf] using l2, by simpa [SV.cl] using l3⟩
        · simp at h

end

/-- An argument that reads as data is one of the symbolic values of its type. -/
theorem open_arg {H : Type} {enc : TypeId × Value → H} {P : Program} {w : World} {spare : Nat → Bool} {held : Bool} {S : Sig} {T : TypeId} {v : Value} {dd : DataW H} {ps : List MemPlace} {base : Nat} (hW : S.W = w) (d : Nat) (ht : okT P d T = true)
    (hv : Value.okWide P w .any base T v) (h : DataW.Trod enc P w 0 spare held T v dd ps) : ∃ sv, Is P d T sv ∧ R S sv v ∧ sv.cl 0 = true := by
  obtain ⟨fuel, h⟩ := h
  obtain ⟨sv, h1, h2, h3⟩ := open_cells hW d T fuel _ _ ht h
  refine ⟨sv, h1, R_of_R1 ?_, h3⟩
  cases d with
  | zero => exact h1.elim
  | succ d =>
    simp only [Is] at h1
    unfold Value.okWide at hv
    cases hu : P.underlying T with
    | none => simp [hu] at h1
    | some u =>
      rw [hu] at h1 hv
      have agg : (∃ cs, v = .agg cs) → sv.isA = true → R1 S sv v := by
        rintro ⟨cs, rfl⟩ hA
        have := R1_agg h2 hA
        simpa [Value.cells] using this
      have sc : sv.isA = false → (∀ cs, v ≠ .agg cs) → R1 S sv v := by
        intro hA hne
        obtain ⟨u, hu, _, hc⟩ := Rf_sc h2 hA
        have : v = u := by
          cases v <;> simp [Value.cells] at hu <;> first
            | exact hu
            | exact (hne _ rfl).elim
        subst this
        refine R1_sc ?_ hA
        rw [← hu]; exact h2
      cases u <;> simp only at h1 hv <;> (try exact h1.elim)
      · obtain ⟨b, rfl⟩ := h1
        refine sc rfl ?_
        rintro cs rfl
        simp [Cell.okWide, Cell.ok, hu] at hv
      · obtain ⟨n, rfl, _⟩ := h1
        refine sc rfl ?_
        rintro cs rfl
        simp [Cell.okWide, Cell.ok, hu] at hv
      · have hA : sv.isA = false := by
          split at h1
          · obtain ⟨xs, rfl, _⟩ := h1; rfl
          · obtain ⟨n, g, rfl, _⟩ := h1; rfl
        refine sc hA ?_
        rintro cs rfl
        simp [Cell.okWide, Cell.ok, hu] at hv
      · have hA : sv.isA = true := by
          split at h1
          · obtain ⟨xs, rfl, _⟩ := h1; rfl
          · exact h1.elim
        obtain ⟨cs, e, _⟩ := hv
        exact agg ⟨cs, e⟩ hA
      · obtain ⟨l, rfl, _⟩ := h1
        obtain ⟨cs, e, _⟩ := hv
        exact agg ⟨cs, e⟩ rfl

end Go.Sx
