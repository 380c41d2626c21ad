/- Sx8: literals of structs and arrays; methods' receivers; builtins. -/
import Derived.Test.YtmgaphghjhbhhaaSx7
namespace Go.Sx
open Go.RowKit (Below)
set_option linter.unusedVariables false
set_option linter.unusedSimpArgs false

theorem foldl_splice (off : Nat) : ∀ (vs : List Value) (k : Nat) (cs : Array Value), off + k + vs.length ≤ cs.size →
    ((vs.zipIdx k).foldl (fun cs (x : Value × Nat) => cs.setIfInBounds (off + x.2) x.1) cs).toList = cs.toList.take (off + k) ++ vs ++ cs.toList.drop (off + k + vs.length)
  | [], k, cs, h => by simp
  | v :: vs, k, cs, h => by
    simp at h
    simp only [List.zipIdx_cons, List.foldl_cons]
    rw [foldl_splice off vs (k + 1) _ (by simp; omega)]
    simp only [Array.toList_setIfInBounds]
    rw [List.set_eq_take_append_cons_drop]
    have : off + k < cs.toList.length := by simp; omega
    simp only [this, if_true]
    have ht : (List.take (off + k) cs.toList ++ v :: List.drop (off + k + 1) cs.toList).take (off + (k + 1)) = List.take (off + k) cs.toList ++ [v] := by
      rw [List.take_append]
      simp [Nat.min_eq_left (by omega : off + k ≤ cs.size)]
      rw [List.take_of_length_le (by simp; omega)]
      simp [show off + (k + 1) - (off + k) = 1 by omega]
    have hd : (List.take (off + k) cs.toList ++ v :: List.drop (off + k + 1) cs.toList).drop (off + (k + 1) + vs.length) = List.drop (off + k + (vs.length + 1)) cs.toList := by
      rw [List.drop_append]
      simp [Nat.min_eq_left (by omega : off + k ≤ cs.size)]
      rw [List.drop_eq_nil_of_le (by simp; omega)]
      simp [show off + (k + 1) + vs.length - (off + k) = vs.length + 1 by omega, List.drop_drop]
      congr 1; omega
    rw [ht, hd]; simp

theorem fold_cells (off : Nat) (v : Value) (cs : Array Value) (h : off + v.cells.size ≤ cs.size) :
    (v.cells.zipIdx.foldl (fun cs (x : Value × Nat) => cs.setIfInBounds (off + x.2) x.1) cs).toList = cs.toList.take off ++ v.cells.toList ++ cs.toList.drop (off + v.cells.size) := by
  have := foldl_splice off v.cells.toList 0 cs (by simpa using h)
  rw [← Array.foldl_toList, Array.toList_zipIdx]
  simpa using this

def PartsR (S : Sig) : List (Nat × SV) → List (Nat × Value) → Prop
  | [], l => l = []
  | (i, t) :: ps, l => ∃ v l', l = (i, v) :: l' ∧ R S t v ∧ PartsR S ps l'

section
variable {P : Program} {S : Sig}

theorem fill_sound {T : TypeId} {place : Nat → Option (Nat × Nat)} : ∀ (ps : List (Nat × SV)) (z v : SV) (l : List (Nat × Value)) (cs : Array Value), fillP P T z ps = some v → PartsR S ps l → z.isA = true → Rf S z cs.toList →
    (∀ i, (match P.underlying T with
      | some (.struct flds) => (flds[i]?).map (fun fl => (fl.offset, P.cellsOf fl.type))
      | some (.array _ e) => some (i * P.cellsOf e, P.cellsOf e)
      | _ => none) = place i) →
    ∃ cs', Instr.fill place cs l = some cs' ∧ Rf S v cs'.toList ∧ v.isA = true
  | [], z, v, l, cs, h, hp, hA, hr, hpl => by
    cases hp
    have : v = z := by cases z <;> simp [fillP] at h <;> exact h.symm
    subst this
    exact ⟨cs, rfl, hr, hA⟩
  | (i, t) :: ps, z, v, l, cs, h, hp, hA, hr, hpl => by
    obtain ⟨x, l', rfl, hx, hp'⟩ := hp
    cases z <;> simp [SV.isA] at hA
    · rename_i fs
      simp only [fillP] at h
      split at h
      · rename_i o old hpre
        split at h
        · rename_i hq
          simp only [Bool.and_eq_true] at hq
          obtain ⟨q1, q2⟩ := hq
          have hsh := same_shp _ _ q2
          have hnt : t.isTup = false := by
            cases t <;> first | rfl | (cases old <;> simp [SV.same] at q2)
          have hx1 := R1_cells (R1_of_R hx hnt)
          have hlx := Rf_len _ _ hx1
          obtain ⟨p1, p2⟩ := pre_off _ _ _ _ hpre
          simp only [Rf] at hr
          obtain ⟨b1, _⟩ := pre_Rfs fs i o old hpre _ hr
          have hsz : old.size = t.size := by rw [← size_shp, ← size_shp, hsh]
          have hplace : place i = some (o, t.size) := by
            rw [← hpl i]
            cases hu : P.underlying T with
            | none => simp [hu] at q1
            | some d =>
              cases d <;> simp [hu] at q1
              · rename_i n e; simp only [Option.some.injEq, Prod.mk.injEq]; exact ⟨q1.1, q1.2⟩
              · rename_i flds
                cases hf : flds[i]? with
                | none => simp [hf] at q1
                | some fl => simp [hf] at q1; simp [hf, q1.1, q1.2]
          have hcs : x.cells.size = t.size := by rw [← hlx]; simp
          have hle : o + x.cells.size ≤ cs.size := by rw [hcs, ← hsz]; simpa using b1
          have hset := set_off fs i old t o _ p1 p2 hsh.symm cs.toList x.cells.toList hr hx1
          obtain ⟨cs', f1, f2, f3⟩ := fill_sound (place := place) ps _ v l' (x.cells.zipIdx.foldl (fun cs (x : Value × Nat) => cs.setIfInBounds (o + x.2) x.1) cs) h hp' rfl
            (by rw [fold_cells o x cs hle]; simp only [Rf]; simpa using hset) hpl
          refine ⟨cs', ?_, f2, f3⟩
          simp only [Instr.fill, hplace]
          rw [if_neg (by simp [hcs]; omega)]
          exact f1
        · simp at h
      · simp at h
    · rename_i k n xs
      cases t <;> (try (simp [fillP] at h; done))
      rename_i k' m
      simp only [fillP] at h
      split at h
      · rename_i hq
        simp at hq
        obtain ⟨q1, q2, q3⟩ := hq
        have := kindEq_eq q2
        subst this
        rw [R_i hx]
        simp only [Rf] at hr
        obtain ⟨hl, hr⟩ := hr
        have hplace : place i = some (i, 1) := by
          rw [← hpl i]
          cases hu : P.underlying T with
          | none => simp [hu] at q1
          | some d =>
            cases d <;> simp [hu] at q1
            rename_i n' e; simp [q1]
        have hsz : cs.size = n := by rw [← hl]; have := congrArg List.length hr; simpa using this
        have hlt : i < n := by simpa using q3
        obtain ⟨cs', f1, f2, f3⟩ := fill_sound (place := place) ps _ v l' ((Value.int k m).cells.zipIdx.foldl (fun cs (x : Value × Nat) => cs.setIfInBounds (i + x.2) x.1) cs) h hp' rfl
          (by
            rw [fold_cells i _ cs (by simp [Value.cells, hsz]; omega)]
            simp only [Rf]
            refine ⟨by simpa using hl, ?_⟩
            rw [hr, List.set_eq_take_append_cons_drop]
            simp [Value.cells, hl, hlt]) hpl
        refine ⟨cs', ?_, f2, f3⟩
        simp only [Instr.fill, hplace]
        rw [if_neg (by simp [Value.cells, hsz]; omega)]
        exact f1
      · simp at h

theorem mapM_info : ∀ (fs : List Field), fs.all (fun f => (P.info? f.type).isSome) = true →
    fs.mapM (fun f => (P.info? f.type).map fun i => (f.offset, i.size)) = some (fs.map fun f => (f.offset, P.cellsOf f.type))
  | [], _ => by simp
  | f :: fs, h => by
    simp at h
    obtain ⟨h1, h2⟩ := h
    cases hi : P.info? f.type with
    | none => simp [hi] at h1
    | some i => simp [List.mapM_cons, hi, mapM_info fs (by simpa using h2), Program.cellsOf]

theorem run_build_at {T : TypeId} {z v : SV} {ps : List (Nat × SV)} {l : List (Nat × Value)} {i0 : TypeInfo} {v0 : Value} {w : World}
    (hi : P.info? T = some i0) (hz : i0.zero = some v0) (hr : R1 S z v0) (hA : z.isA = true) (hb : bldOK P T = true) (hf : fillP P T z ps = some v) (hp : PartsR S ps l) :
    ∃ v', (Instr.build T l.toArray).run P w = .ok v' w ∧ R S v v' := by
  obtain ⟨cs, rfl, hcs⟩ : ∃ cs : Array Value, v0 = .agg cs ∧ Rf S z cs.toList := by
    unfold R1 at hr; simp only [hA] at hr; exact hr
  unfold bldOK at hb
  cases hu : P.underlying T with
  | none => simp [hu] at hb
  | some d =>
    cases d <;> simp only [hu] at hb <;> (try (simp at hb; done))
    · rename_i n e
      cases hie : P.info? e with
      | none => simp [hie] at hb
      | some ie =>
        obtain ⟨cs', f1, f2, f3⟩ := fill_sound (S := S) (P := P) (T := T) (place := fun i => some (i * ie.size, ie.size)) ps z v l cs hf hp hA hcs (by intro i; simp [hu, Program.cellsOf, hie])
        refine ⟨.agg cs', run_build w T _ cs' ?_, ?_⟩
        · simp [Program.built, hi, hu, hz, hie, Value.cells, f1]
        · have := R1_agg f2 f3
          exact R_of_R1 (by simpa using this)
    · rename_i fs
      have hm := mapM_info (P := P) fs.toList hb
      obtain ⟨cs', f1, f2, f3⟩ := fill_sound (S := S) (P := P) (T := T) (place := fun i => (fs.toList.map fun f => (f.offset, P.cellsOf f.type))[i]?) ps z v l cs hf hp hA hcs (by intro i; simp [hu])
      refine ⟨.agg cs', run_build w T _ cs' ?_, ?_⟩
      · simp only [Program.built, hi, hu, hz, hm]
        simp only [Value.cells, List.getElem?_toArray]
        simpa using f1
      · have := R1_agg f2 f3
        exact R_of_R1 (by simpa using this)
end

/-! ### Receivers -/
theorem at_app : ∀ (p : List PStep) (s s' s2 : Shp) (o o2 : Nat) (q : List PStep), s.at p = some (o, s') → s'.at q = some (o2, s2) → s.at (p ++ q) = some (o + o2, s2)
  | [], s, s', s2, o, o2, q, h, h2 => by
    simp [Shp.at] at h; obtain ⟨rfl, rfl⟩ := h
    simpa using h2
  | .f k :: p, s, s', s2, o, o2, q, h, h2 => by
    cases s with
    | nd l =>
      simp only [Shp.at] at h
      simp only [List.cons_append, Shp.at]
      cases ho : l.off k with
      | none => simp [ho] at h
      | some x =>
        obtain ⟨o1, s1⟩ := x
        simp only [ho] at h ⊢
        cases ha : s1.at p with
        | none => simp [ha] at h
        | some y =>
          obtain ⟨o3, s3⟩ := y
          simp [ha] at h; obtain ⟨rfl, rfl⟩ := h
          rw [at_app p s1 _ s2 o3 o2 q ha h2]
          simp; omega
    | _ => simp [Shp.at] at h
  | .x ix :: p, s, s', s2, o, o2, q, h, h2 => by
    cases s with
    | ar k n =>
      cases p with
      | nil =>
        simp only [Shp.at] at h
        split at h
        · rename_i hb
          simp at h; obtain ⟨rfl, rfl⟩ := h
          cases q with
          | nil => simp [Shp.at] at h2; obtain ⟨rfl, rfl⟩ := h2; simp [Shp.at, hb]
          | cons a l => cases a <;> simp [Shp.at] at h2
        · simp at h
      | cons _ _ => simp [Shp.at] at h
    | _ => simp [Shp.at] at h

theorem get_app : ∀ (p q : List PStep) (t u : SV), SV.get t (p ++ q) = some u → ∃ m, SV.get t p = some m ∧ SV.get m q = some u
  | [], q, t, u, h => ⟨t, by simp [SV.get], by simpa using h⟩
  | .f k :: p, q, t, u, h => by
    cases t with
    | agg fs =>
      simp only [List.cons_append, SV.get] at h ⊢
      cases hg : fs.get k with
      | none => simp [hg] at h
      | some a =>
        simp only [hg] at h ⊢
        exact get_app p q a u h
    | _ => simp [SV.get] at h
  | .x ix :: p, q, t, u, h => by
    cases t with
    | arr k n xs =>
      cases p with
      | nil =>
        cases q with
        | nil => exact ⟨u, by simpa using h, by simp [SV.get]⟩
        | cons _ _ => simp [SV.get] at h
      | cons _ _ => simp [SV.get] at h
    | _ => simp [SV.get] at h

theorem zeros_at : ∀ (d : Nat) (t u : SV), SV.get t (List.replicate d (.f 0)) = some u → t.shp.at (List.replicate d (.f 0)) = some (0, u.shp)
  | 0, t, u, h => by simp [SV.get] at h; subst h; simp [Shp.at]
  | d + 1, t, u, h => by
    cases t with
    | agg fs =>
      simp only [List.replicate_succ, SV.get] at h
      cases fs with
      | nil => simp [SVs.get] at h
      | cons a l =>
        simp only [SVs.get] at h
        simp [List.replicate_succ, SV.shp, SVs.shp, Shp.at, Shps.off, zeros_at d a u h]
    | _ => simp [List.replicate_succ, SV.get] at h

theorem ptrsTo_sound {S : Sig} {M : Mem} {w : World} (h : Rep S M w) {v v' : SV} {d : Nat} {x : Value} (hp : ptrsTo M v d = some v') (hr : R S v x) : (∃ a, x = .pointer (some a)) ∧ R S v' x := by
  unfold ptrsTo at hp
  split at hp
  · rename_i b q
    split at hp
    · rename_i t hm
      split at hp
      · rename_i u hg
        simp at hp; subst hp
        obtain ⟨m, h1, h2⟩ := get_app _ _ _ _ hg
        obtain ⟨o, cs, el, rfl, e1, _⟩ := h.addr hr hm h1
        refine ⟨⟨_, rfl⟩, ?_⟩
        show Rf S _ _
        simp only [Rf]
        rw [getM_eq] at hm
        exact ⟨t.shp, o, u.shp, by rw [h.sh]; simp [hm], by simpa using at_app q _ _ _ _ _ _ e1 (zeros_at d m u h2), rfl⟩
      · simp at hp
    · simp at hp
  · simp at hp

end Go.Sx
