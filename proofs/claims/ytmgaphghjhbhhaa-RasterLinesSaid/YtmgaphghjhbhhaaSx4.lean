/- Sx4: what a memory of symbolic values says of a world; loads, stores, new blocks. -/
import Derived.Test.YtmgaphghjhbhhaaSx3
import Derived.Laws.Entries
import Derived.Laws.Sem
import Derived.Laws.World
import Derived.Laws.Rows
namespace Go.Sx
open Go.RowKit (Below)
set_option linter.unusedVariables false
set_option linter.unusedSimpArgs false

theorem nbeq0 {n : Nat} (h : Nat.beq n 0 = false) : n ≠ 0 := by rintro rfl; simp at h

theorem getM_eq : ∀ (M : Mem) (j : Nat), getM M j = M[j]?
  | [], j => by simp [getM]
  | a :: l, 0 => by simp [getM]
  | a :: l, j + 1 => by simp [getM, getM_eq l j]
theorem setM_eq : ∀ (M : Mem) (j : Nat) (v : SV), setM M j v = M.set j v
  | [], j, v => by simp [setM]
  | a :: l, 0, v => by simp [setM]
  | a :: l, j + 1, v => by simp [setM, setM_eq l j v]

/-- The world in which a function was entered knows all that the first one knew. -/
structure Base (S : Sig) : Prop where
  size : S.W.heap.size ≤ S.F.heap.size
  same : ∀ k, k < S.W.heap.size → S.F.heap[k]? = S.W.heap[k]?
  g : ∀ b, S.g = some b → S.W.heap.size ≤ b

structure Rep (S : Sig) (M : Mem) (w : World) : Prop where
  base : Base S
  sh : S.sh = M.map SV.shp
  size : S.F.heap.size ≤ w.heap.size
  kept : ∀ k, k < S.F.heap.size → S.g ≠ some k → w.heap[k]? = S.F.heap[k]?
  os : w.os = S.F.os
  tape : w.tape = S.F.tape
  out : w.output = S.F.output
  inj : ∀ i j, i < M.length → j < M.length → S.ρ i = S.ρ j → i = j
  new : ∀ i, i < M.length → S.g = some (S.ρ i) ∨ S.F.heap.size ≤ S.ρ i
  blk : ∀ i t, M[i]? = some t → ∃ cs el, w.heap[S.ρ i]? = some (.cells cs el (0, 0)) ∧ Rf S t cs.toList

theorem Addr.add_add (a : Addr) (i j : Nat) : (a.add i).add j = a.add (i + j) := by
  unfold Addr.add
  by_cases hi : i = 0
  · simp [hi]
  · by_cases hj : j = 0
    · simp [hi, hj]
    · simp [hi, hj, show ¬ (i + j = 0) by omega]; omega
theorem Addr.add_none (b o j : Nat) : (⟨b, o, none⟩ : Addr).add j = ⟨b, o + j, none⟩ := by
  unfold Addr.add; split <;> simp_all

section
variable {S : Sig} {M : Mem} {w : World}

theorem Rep.cell_old (h : Rep S M w) {a : Addr} {ds : List Value} (ho : Old S a ds) : ∀ (j : Nat) v, ds[j]? = some v → w.cell? (a.add j) = some v := by
  obtain ⟨h1, h3⟩ := ho
  intro j v hj
  have hb : (a.add j).block = a.block := by unfold Addr.add; split <;> rfl
  have := h3 j v hj
  unfold World.cell? at this ⊢
  rw [hb] at this ⊢
  have hs := h.base.size
  rw [h.kept _ (by omega) (fun e => by have := h.base.g _ e; omega), h.base.same _ h1]; exact this

theorem Rep.addr {b : Nat} {p : List PStep} {v : Value} (h : Rep S M w) (hr : R S (.ptr b p) v) {t u : SV} (hm : getM M b = some t) (hg : SV.get t p = some u) :
    ∃ o cs el, v = .pointer (some ⟨S.ρ b, o, none⟩) ∧ t.shp.at p = some (o, u.shp) ∧ w.heap[S.ρ b]? = some (.cells cs el (0, 0)) ∧ Rf S t cs.toList ∧
      o + u.size ≤ cs.size ∧ Rf S u ((cs.toList.drop o).take u.size) := by
  rw [getM_eq] at hm
  obtain ⟨cs, el, h1, h2⟩ := h.blk b t hm
  have hr' : Rf S (.ptr b p) [v] := hr
  simp only [Rf] at hr'
  obtain ⟨s, o, s', e1, e2, e3⟩ := hr'
  simp at e3; subst e3
  rw [h.sh] at e1
  simp [hm] at e1; subst e1
  obtain ⟨g1, g2, g3⟩ := get_at p t u o s' hg e2 _ h2
  subst g1
  exact ⟨o, cs, el, rfl, e2, h1, h2, by simpa using g2, g3⟩

theorem cell_row {g : Nat} {cs : Array Value} {el : TypeId} {fr : Nat × Nat} (h : w.heap[g]? = some (.cells cs el fr)) (j : Nat) : w.cell? ⟨g, j, none⟩ = cs[j]? := by
  simp [World.cell?, h]

theorem Rep.cells_at (h : Rep S M w) {g o : Nat} {cs : Array Value} {el : TypeId} {fr : Nat × Nat} (hg : w.heap[g]? = some (.cells cs el fr)) (n : Nat) :
    ∀ (j : Nat) v, ((cs.toList.drop o).take n)[j]? = some v → w.cell? ((⟨g, o, none⟩ : Addr).add j) = some v := by
  intro j v hj
  rw [Addr.add_none, cell_row hg]
  have : j < n := by
    rcases Nat.lt_or_ge j n with h | h
    · exact h
    · rw [List.getElem?_take, if_neg (by omega)] at hj; simp at hj
  rw [List.getElem?_take_of_lt this, List.getElem?_drop] at hj
  simpa using hj
end

theorem cells_info {P : Program} {T : TypeId} (h : P.cellsOf T ≠ 0) : ∃ i, P.info? T = some i ∧ i.size = P.cellsOf T := by
  unfold Program.cellsOf at *
  cases hi : P.info? T with
  | none => simp [hi] at h
  | some i => exact ⟨i, rfl, by simp⟩

theorem run_sizeOf' {P : Program} {T : TypeId} (h : P.cellsOf T ≠ 0) (w : World) : (sizeOf T).run P w = .ok (P.cellsOf T) w := by
  obtain ⟨i, hi, e⟩ := cells_info h
  simp [sizeOf, typeInfo, hi, e]

theorem run_isAgg {P : Program} {T : TypeId} {b : Bool} (h : aggT P T = some b) (w : World) : (isAgg T).run P w = .ok b w := by
  unfold aggT at h
  cases hu : P.underlying T with
  | none => simp [hu] at h
  | some d => cases d <;> simp [hu] at h <;> subst h <;> simp [isAgg, run_underlying hu]

/-- A variable at an address whose cells are known. -/
theorem run_loadVar_at {P : Program} {S : Sig} {w : World} {T : TypeId} {a : Addr} {t : SV} {ds : List Value} (hr : Rf S t ds) (hk : ldOK P T t = true)
    (hc : ∀ (j : Nat) v, ds[j]? = some v → w.cell? (a.add j) = some v) : ∃ v, (loadVar T a).run P w = .ok v w ∧ R1 S t v := by
  have hl := Rf_len t ds hr
  unfold ldOK at hk
  cases hA : aggT P T with
  | none => simp [hA] at hk
  | some b =>
    cases b with
    | false =>
      simp [hA] at hk
      obtain ⟨v, rfl, h1, h2⟩ := Rf_sc hr hk.1
      have := hc 0 v (by simp)
      have h0 : a.add 0 = a := by simp [Addr.add]
      rw [h0] at this
      exact ⟨v, by simp [loadVar, run_isAgg hA, this], R1_sc hr hk.1⟩
    | true =>
      simp [hA] at hk
      obtain ⟨k1, k2, k3⟩ := hk
      refine ⟨.agg ds.toArray, ?_, R1_agg hr k1⟩
      have hlc := run_loadCells_list (P := P) (w := w) a ds hc
      simp [loadVar, run_isAgg hA, run_sizeOf' (by rw [← k2]; exact nbeq0 k3 : P.cellsOf T ≠ 0), ← k2, ← hl, hlc]

theorem Rep.loadK {P : Program} {S : Sig} {M : Mem} {w : World} (h : Rep S M w) {T : TypeId} {p : SV} {pv : Value} (hp : R S p pv) {K : SV → Prop} (hk : loadK P T p M K) :
    ∃ t v a, K t ∧ pv = .pointer (some a) ∧ (loadVar T a).run P w = .ok v w ∧ R1 S t v := by
  cases p with
  | ptr b p =>
    simp only [Sx.loadK] at hk
    cases hm : getM M b with
    | none => simp [hm] at hk
    | some t =>
      simp only [hm] at hk
      cases hg : SV.get t p with
      | none => simp [hg] at hk
      | some u =>
        simp only [hg] at hk
        cases hl : ldOK P T u with
        | false => simp [hl, onB] at hk
        | true =>
          simp [hl, onB] at hk
          obtain ⟨o, cs, el, rfl, _, h1, h2, h3, h4⟩ := h.addr hp hm hg
          obtain ⟨v, hv, hr⟩ := run_loadVar_at (a := ⟨S.ρ b, o, none⟩) h4 hl (h.cells_at h1 _)
          exact ⟨u, v, _, hk, rfl, hv, hr⟩
  | cptr t =>
    simp only [Sx.loadK] at hk
    cases hl : ldOK P T t with
    | false => simp [hl, onB] at hk
    | true =>
      simp [hl, onB] at hk
      have hr' : Rf S (.cptr t) [pv] := hp
      simp only [Rf] at hr'
      obtain ⟨a, ds, h0, h1, h2, e⟩ := hr'
      simp at e; subst e
      obtain ⟨v, hv, hr⟩ := run_loadVar_at h1 hl (h.cell_old h2)
      exact ⟨t, v, a, hk, rfl, hv, hr⟩
  | _ => simp only [Sx.loadK] at hk

/-- Cells stored one behind the other into a block. -/
theorem run_storeCells_at {P : Program} (g : Nat) (el : TypeId) (o : Nat) : ∀ (vs : List Value) (i : Nat) (cs : Array Value) (w : World),
    w.heap[g]? = some (.cells cs el (0, 0)) → o + i + vs.length ≤ cs.size → (∀ v ∈ vs, v.oneCell' = true) →
    ∃ w' cs', (storeCells ⟨g, o, none⟩ vs i).run P w = .ok () w' ∧ w'.heap[g]? = some (.cells cs' el (0, 0)) ∧
      cs'.toList = cs.toList.take (o + i) ++ vs ++ cs.toList.drop (o + i + vs.length) ∧
      (∀ k, k ≠ g → w'.heap[k]? = w.heap[k]?) ∧ w'.heap.size = w.heap.size ∧ w'.os = w.os ∧ w'.tape = w.tape ∧ w'.output = w.output
  | [], i, cs, w, hg, hl, ho => ⟨w, cs, by simp [storeCells], hg, by simp, fun _ _ => rfl, rfl, rfl, rfl, rfl⟩
  | v :: vs, i, cs, w, hg, hl, ho => by
    simp at hl
    have h1 := ho v (by simp)
    have hlt : o + i < cs.size := by omega
    have hc : w.cell? ⟨g, o + i, none⟩ = some cs[o + i] := by rw [cell_row hg]; simp [hlt]
    have hf : w.frozen? ⟨g, o + i, none⟩ = false := frozen_of_row w g _ cs el hg
    have hs := heap_setCell_same w g (o + i) cs el v hg
    obtain ⟨w', cs', e1, e2, e3, e4, e5, e6, e7, e8⟩ := run_storeCells_at (P := P) g el o vs (i + 1) _ _ hs (by simp; omega) (fun u hu => ho u (by simp [hu]))
    refine ⟨w', cs', ?_, e2, ?_, ?_, ?_, e6, e7, e8⟩
    · simp only [storeCells, Addr.add_none]
      simp [run_store P w _ v .plain h1, hc, hf, e1]
    · rw [e3]
      simp only [Array.toList_setIfInBounds]
      rw [List.set_eq_take_append_cons_drop]
      have : o + i < cs.toList.length := by simpa using hlt
      simp only [this, if_true]
      have ht : (List.take (o + i) cs.toList ++ v :: List.drop (o + i + 1) cs.toList).take (o + (i + 1)) = List.take (o + i) cs.toList ++ [v] := by
        rw [List.take_append]
        simp [Nat.min_eq_left (Nat.le_of_lt hlt)]
        rw [List.take_of_length_le (by simp; omega)]
        simp [show o + (i + 1) - (o + i) = 1 by omega]
      have hd : (List.take (o + i) cs.toList ++ v :: List.drop (o + i + 1) cs.toList).drop (o + (i + 1) + vs.length) = List.drop (o + i + (vs.length + 1)) cs.toList := by
        rw [List.drop_append]
        simp [Nat.min_eq_left (Nat.le_of_lt hlt)]
        rw [List.drop_eq_nil_of_le (by simp; omega)]
        simp [show o + (i + 1) + vs.length - (o + i) = vs.length + 1 by omega, List.drop_drop]
        congr 1; omega
      rw [ht, hd]; simp
    · intro k hk; rw [e4 k hk, heap_setCell_other _ _ _ _ hk]
    · rw [e5]; simp

theorem Rep.upd {S : Sig} {M : Mem} {w w' : World} (h : Rep S M w) {b : Nat} {t t' : SV} (hm : M[b]? = some t) {cs' : Array Value} {el : TypeId}
    (h1 : w'.heap[S.ρ b]? = some (.cells cs' el (0, 0))) (h2 : Rf S t' cs'.toList) (hs : t'.shp = t.shp)
    (h3 : ∀ k, k ≠ S.ρ b → w'.heap[k]? = w.heap[k]?) (h4 : w'.heap.size = w.heap.size) (h5 : w'.os = w.os) (h6 : w'.tape = w.tape) (h7 : w'.output = w.output) :
    Rep S (M.set b t') w' := by
  have hb : b < M.length := by
    rcases Nat.lt_or_ge b M.length with h | h
    · exact h
    · simp [List.getElem?_eq_none h] at hm
  refine ⟨h.base, ?_, by rw [h4]; exact h.size, ?_, h5.trans h.os, h6.trans h.tape, h7.trans h.out, ?_, ?_, ?_⟩
  · rw [h.sh, List.map_set, hs]
    apply List.ext_getElem?
    intro j
    by_cases hj : b = j
    · subst hj; simp [hb]; rw [List.getElem?_eq_getElem hb] at hm; simp at hm; rw [hm]
    · simp [hj]
  · intro k hk hg
    rw [h3 k ?_]
    · exact h.kept k hk hg
    · rintro rfl
      rcases h.new b hb with e | e
      · exact hg e
      · omega
  · simpa using h.inj
  · simpa using h.new
  · intro i u hu
    by_cases hi : b = i
    · subst hi; simp [hb] at hu; subst hu; exact ⟨cs', el, h1, h2⟩
    · rw [List.getElem?_set_ne hi] at hu
      obtain ⟨cs, e, k1, k2⟩ := h.blk i u hu
      have hil : i < M.length := by
        rcases Nat.lt_or_ge i M.length with h | h
        · exact h
        · simp [List.getElem?_eq_none h] at hu
      exact ⟨cs, e, by rw [h3 _ (fun e => hi (h.inj _ _ hil hb e).symm)]; exact k1, k2⟩

theorem Rep.storeK {P : Program} {S : Sig} {M : Mem} {w : World} (h : Rep S M w) {T : TypeId} {p x : SV} {pv xv : Value} (hp : R S p pv) (hx : R S x xv) {K : Mem → Prop} (hk : storeK P T p x M K) :
    ∃ M' a w', K M' ∧ pv = .pointer (some a) ∧ (storeVar T a xv).run P w = .ok () w' ∧ Rep S M' w' ∧ M'.length = M.length := by
  cases p with
  | ptr b p =>
    simp only [Sx.storeK] at hk
    cases hm : getM M b with
    | none => simp [hm] at hk
    | some t =>
      simp only [hm] at hk
      cases hu : SV.put t p x with
      | none => simp [hu] at hk
      | some t' =>
        simp only [hu] at hk
        cases hq : (Nat.beq x.size (P.cellsOf T) && (!Nat.beq x.size 0 && !x.isTup)) with
        | false => simp [hq, onB] at hk
        | true =>
          simp only [hq, onB] at hk
          simp at hq
          obtain ⟨q1, q2, q3⟩ := hq
          have hx1 := R1_cells (R1_of_R hx q3)
          have hlx := Rf_len _ _ hx1
          have hr' : Rf S (.ptr b p) [pv] := hp
          simp only [Rf] at hr'
          obtain ⟨s, o, s', e1, e2, e3⟩ := hr'
          simp at e3; subst e3
          have hm' := hm
          rw [getM_eq] at hm'
          rw [h.sh] at e1
          simp [hm'] at e1; subst e1
          obtain ⟨cs, el, k1, k2⟩ := h.blk b t hm'
          obtain ⟨z1, z2, z3, z4⟩ := put_at p t x t' o s' hu e2 _ _ k2 hx1
          obtain ⟨w', cs', r1, r2, r3, r4, r5, r6, r7, r8⟩ := run_storeCells_at (P := P) (S.ρ b) el o xv.cells.toList 0 cs w k1 (by simpa using z3) (Rf_one _ _ hx1)
          refine ⟨_, ⟨S.ρ b, o, none⟩, w', hk, rfl, ?_, ?_, by simp [setM_eq]⟩
          · have : xv.cells.size = P.cellsOf T := by rw [← q1, ← hlx]; simp
            simp [storeVar, run_sizeOf' (by rw [← q1]; exact nbeq0 q2 : P.cellsOf T ≠ 0), this, r1]
          · rw [setM_eq]
            refine h.upd hm' r2 ?_ z1 r4 r5 r6 r7 r8
            rw [r3]; simpa using z4
  | _ => simp only [Sx.storeK] at hk

theorem Rep.push {S : Sig} {M : Mem} {w : World} (h : Rep S M w) {t : SV} {cs : Array Value} (el : TypeId) (ht : Rf S t cs.toList) :
    ∃ S', Ext S S' ∧ Rep S' (M ++ [t]) { w with heap := w.heap.push (.cells cs el (0, 0)) } ∧ R S' (.ptr M.length []) (.pointer (some ⟨w.heap.size, 0, none⟩)) := by
  let S' : Sig := { S with ρ := fun j => if j = M.length then w.heap.size else S.ρ j, sh := S.sh ++ [t.shp] }
  have hlen : S.sh.length = M.length := by rw [h.sh]; simp
  have hE : Ext S S' := ⟨rfl, rfl, rfl, fun j s e => by
    have : j < S.sh.length := by
      rcases Nat.lt_or_ge j S.sh.length with h | h
      · exact h
      · simp [List.getElem?_eq_none h] at e
    exact ⟨by show (S.sh ++ [t.shp])[j]? = _; rw [List.getElem?_append_left this]; exact e, by show (if j = M.length then _ else _) = _; rw [if_neg (by omega)]⟩⟩
  have hlt : ∀ i u, M[i]? = some u → i < M.length := by
    intro i u hu
    rcases Nat.lt_or_ge i M.length with h | h
    · exact h
    · simp [List.getElem?_eq_none h] at hu
  have hρ : ∀ i, i < M.length → S.ρ i < w.heap.size := by
    intro i hi
    obtain ⟨c, e, k, _⟩ := h.blk i _ (List.getElem?_eq_getElem hi)
    exact (Array.getElem?_eq_some_iff.1 k).1
  refine ⟨S', hE, ⟨⟨h.base.size, h.base.same, h.base.g⟩, ?_, ?_, ?_, h.os, h.tape, h.out, ?_, ?_, ?_⟩, ?_⟩
  · show S.sh ++ [t.shp] = _; rw [h.sh]; simp
  · show S.F.heap.size ≤ _; have := h.size; simp; omega
  · intro k hk hg
    show (w.heap.push _)[k]? = S.F.heap[k]?
    have hk' : k < S.F.heap.size := hk
    have := h.size
    rw [Array.getElem?_push, if_neg (by omega)]; exact h.kept k hk hg
  · intro i j hi hj e
    simp at hi hj
    have e' : (if i = M.length then w.heap.size else S.ρ i) = (if j = M.length then w.heap.size else S.ρ j) := e
    by_cases h1 : i = M.length <;> by_cases h2 : j = M.length
    · omega
    · rw [if_pos h1, if_neg h2] at e'; have := hρ j (by omega); omega
    · rw [if_neg h1, if_pos h2] at e'; have := hρ i (by omega); omega
    · rw [if_neg h1, if_neg h2] at e'; exact h.inj _ _ (by omega) (by omega) e'
  · intro i hi
    simp at hi
    show S.g = some (if i = M.length then w.heap.size else S.ρ i) ∨ S.F.heap.size ≤ (if i = M.length then w.heap.size else S.ρ i)
    by_cases h1 : i = M.length
    · right; rw [if_pos h1]; exact h.size
    · rw [if_neg h1]; exact h.new i (by omega)
  · intro i u hu
    by_cases hi : i < M.length
    · rw [List.getElem?_append_left hi] at hu
      obtain ⟨c, e, k1, k2⟩ := h.blk i u hu
      refine ⟨c, e, ?_, Rf_ext hE k2⟩
      show (w.heap.push _)[if i = M.length then _ else _]? = _
      rw [if_neg (by omega), Array.getElem?_push, if_neg (by have := hρ i hi; omega)]; exact k1
    · have hi' : i = M.length := by
        have : i < (M ++ [t]).length := by
          rcases Nat.lt_or_ge i (M ++ [t]).length with h | h
          · exact h
          · simp [List.getElem?_eq_none h] at hu
        simp at this; omega
      subst hi'
      simp at hu; subst hu
      refine ⟨cs, el, ?_, Rf_ext hE ht⟩
      show (w.heap.push _)[if M.length = M.length then _ else _]? = _
      rw [if_pos rfl]; simp
  · show Rf S' (.ptr M.length []) [_]
    simp only [Rf]
    refine ⟨t.shp, 0, t.shp, ?_, rfl, ?_⟩
    · show (S.sh ++ [t.shp])[M.length]? = _; rw [← hlen]; simp
    · show _ = [Value.pointer (some ⟨if M.length = M.length then _ else _, 0, none⟩)]; rw [if_pos rfl]

theorem Rep.drew {S : Sig} {M : Mem} {w : World} (h : Rep S M w) : Rep S M { w with drawn := w.drawn + 1 } :=
  ⟨h.base, h.sh, h.size, h.kept, h.os, h.tape, h.out, h.inj, h.new, h.blk⟩

end Go.Sx
