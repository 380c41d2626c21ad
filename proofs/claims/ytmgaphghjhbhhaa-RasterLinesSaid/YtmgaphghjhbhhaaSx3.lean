/- Sx3: the carrying of what values say; memory. -/
import Derived.Test.YtmgaphghjhbhhaaSx2
namespace Go.Sx
open Go.RowKit (Below)
set_option linter.unusedVariables false
set_option linter.unusedSimpArgs false

mutual
theorem cl_mono {m n : Nat} (h : m ≤ n) : ∀ t : SV, t.cl m = true → t.cl n = true
  | .ptr .., hc => by simp [SV.cl] at hc ⊢; omega
  | .sl .., hc => by simp [SV.cl] at hc ⊢; omega
  | .ifc _ v, hc => by simp only [SV.cl] at hc ⊢; exact cl_mono h v hc
  | .agg fs, hc => by simp only [SV.cl] at hc ⊢; exact cls_mono h fs hc
  | .tup fs, hc => by simp only [SV.cl] at hc ⊢; exact cls_mono h fs hc
  | .b _, _ | .i .., _ | .cptr _, _ | .nilp, _ | .fn _, _ | .nili, _ | .nilf, _ | .arr .., _ | .roi .., _ | .ros .., _ | .nils, _ => by simp [SV.cl]
theorem cls_mono {m n : Nat} (h : m ≤ n) : ∀ t : SVs, t.cl m = true → t.cl n = true
  | .nil, _ => rfl
  | .cons a l, hc => by
    simp [SVs.cl] at hc ⊢
    exact ⟨cl_mono h a hc.1, cls_mono h l hc.2⟩
end

structure Tr (n : Nat) (S S' : Sig) : Prop where
  old : ∀ a ds, Old S a ds → Old S' a ds
  sh : ∀ j, j < n → ∀ s, S.sh[j]? = some s → S'.sh[j]? = some s ∧ S'.ρ j = S.ρ j

mutual
theorem Rf_tr {n : Nat} {S S' : Sig} (h : Tr n S S') : ∀ (t : SV) (cs : List Value), t.cl n = true → Rf S t cs → Rf S' t cs
  | .agg fs, cs, hc, hr => by simp only [Rf] at hr ⊢; simp only [SV.cl] at hc; exact Rfs_tr h fs cs hc hr
  | .arr .., cs, hc, hr => by simp only [Rf] at hr ⊢; exact hr
  | .b _, cs, hc, hr | .i .., cs, hc, hr | .nilp, cs, hc, hr | .fn _, cs, hc, hr | .nili, cs, hc, hr | .nilf, cs, hc, hr | .nils, cs, hc, hr => by
    simp only [Rf] at hr ⊢; exact hr
  | .ptr b p, cs, hc, hr => by
    simp only [Rf] at hr ⊢; simp [SV.cl] at hc
    obtain ⟨s, o, s', h1, h2, rfl⟩ := hr
    obtain ⟨k1, k2⟩ := h.sh b hc s h1
    exact ⟨s, o, s', k1, h2, by rw [k2]⟩
  | .cptr t, cs, hc, hr => by
    simp only [Rf] at hr ⊢
    obtain ⟨a, ds, h0, h1, h2, rfl⟩ := hr
    exact ⟨a, ds, h0, Rf_tr h t ds (cl_mono (Nat.zero_le _) t h0) h1, h.old _ _ h2, rfl⟩
  | .ifc t v, cs, hc, hr => by
    simp only [Rf] at hr ⊢; simp only [SV.cl] at hc
    obtain ⟨x, h1, h2, rfl⟩ := hr
    exact ⟨x, Rf_tr h v _ hc h1, h2, rfl⟩
  | .sl b p off len cap, cs, hc, hr => by
    simp only [Rf] at hr ⊢; simp [SV.cl] at hc
    obtain ⟨s, o, k, m, a, h1, h2, h3, h4, rfl, h5, h6, h7⟩ := hr
    obtain ⟨k1, k2⟩ := h.sh b hc s h1
    exact ⟨s, o, k, m, a, k1, h2, h3, h4, rfl, by rw [k2]; exact h5, h6, h7⟩
  | .roi k xs, cs, hc, hr => by
    simp only [Rf] at hr ⊢
    obtain ⟨a, cap, h1, rfl, h2, h3⟩ := hr
    exact ⟨a, cap, h1, rfl, h2, fun a' e => (h3 a' e).imp id (h.old _ _)⟩
  | .ros m g, cs, hc, hr => by
    simp only [Rf] at hr ⊢
    obtain ⟨a, cap, h1, rfl, h2, h3⟩ := hr
    refine ⟨a, cap, h1, rfl, h2, fun j hj => ?_⟩
    obtain ⟨k0, ds, k1, k2⟩ := h3 j hj
    exact ⟨k0, ds, Rf_tr h (g j) ds (cl_mono (Nat.zero_le _) _ k0) k1, fun a' e => h.old _ _ (k2 a' e)⟩
  | .tup _, cs, hc, hr => by simp only [Rf] at hr
theorem Rfs_tr {n : Nat} {S S' : Sig} (h : Tr n S S') : ∀ (t : SVs) (cs : List Value), t.cl n = true → Rfs S t cs → Rfs S' t cs
  | .nil, cs, hc, hr => by simp only [Rfs] at hr ⊢; exact hr
  | .cons a l, cs, hc, hr => by
    simp only [Rfs] at hr ⊢; simp [SVs.cl] at hc
    obtain ⟨c1, c2, rfl, h1, h2⟩ := hr
    exact ⟨c1, c2, rfl, Rf_tr h a c1 hc.1 h1, Rfs_tr h l c2 hc.2 h2⟩
end

/-! A value names own blocks alone that there are. -/
mutual
theorem Rf_cl {S : Sig} : ∀ (t : SV) (cs : List Value), Rf S t cs → t.cl S.sh.length = true
  | .agg fs, cs, hr => by simp only [Rf] at hr; simp only [SV.cl]; exact Rfs_cl fs cs hr
  | .ptr b p, cs, hr => by
    simp only [Rf] at hr
    obtain ⟨s, o, s', h1, _⟩ := hr
    simp [SV.cl]
    rcases Nat.lt_or_ge b S.sh.length with h | h
    · exact h
    · simp [List.getElem?_eq_none h] at h1
  | .sl b p off len cap, cs, hr => by
    simp only [Rf] at hr
    obtain ⟨s, o, k, m, a, h1, _⟩ := hr
    simp [SV.cl]
    rcases Nat.lt_or_ge b S.sh.length with h | h
    · exact h
    · simp [List.getElem?_eq_none h] at h1
  | .ifc t v, cs, hr => by
    simp only [Rf] at hr
    obtain ⟨x, h1, _⟩ := hr
    simp only [SV.cl]; exact Rf_cl v _ h1
  | .tup _, cs, hr => by simp only [Rf] at hr
  | .b _, _, _ | .i .., _, _ | .cptr _, _, _ | .nilp, _, _ | .fn _, _, _ | .nili, _, _ | .nilf, _, _ | .arr .., _, _ | .roi .., _, _ | .ros .., _, _ | .nils, _, _ => by simp [SV.cl]
theorem Rfs_cl {S : Sig} : ∀ (t : SVs) (cs : List Value), Rfs S t cs → t.cl S.sh.length = true
  | .nil, _, _ => rfl
  | .cons a l, cs, hr => by
    simp only [Rfs] at hr
    obtain ⟨c1, c2, rfl, h1, h2⟩ := hr
    simp [SVs.cl, Rf_cl a c1 h1, Rfs_cl l c2 h2]
end

/-- Nothing is lost that a world before knew. -/
structure Ext (S S' : Sig) : Prop where
  W : S'.W = S.W
  F : S'.F = S.F
  g : S'.g = S.g
  sh : ∀ j s, S.sh[j]? = some s → S'.sh[j]? = some s ∧ S'.ρ j = S.ρ j

theorem Ext.refl (S : Sig) : Ext S S := ⟨rfl, rfl, rfl, fun _ _ h => ⟨h, rfl⟩⟩
theorem Ext.trans {a b c : Sig} (h : Ext a b) (k : Ext b c) : Ext a c :=
  ⟨k.W.trans h.W, k.F.trans h.F, k.g.trans h.g, fun j s e => let ⟨e1, r1⟩ := h.sh j s e; let ⟨e2, r2⟩ := k.sh j s e1; ⟨e2, r2.trans r1⟩⟩
theorem Ext.old {S S' : Sig} (h : Ext S S') {a : Addr} {ds : List Value} (ho : Old S a ds) : Old S' a ds := by
  unfold Old at *; rw [h.W]; exact ho
theorem Ext.tr {S S' : Sig} (h : Ext S S') (n : Nat) : Tr n S S' := ⟨fun _ _ => h.old, fun j _ s e => h.sh j s e⟩
theorem Rf_ext {S S' : Sig} (h : Ext S S') {t : SV} {cs : List Value} (hr : Rf S t cs) : Rf S' t cs :=
  Rf_tr (h.tr _) t cs (Rf_cl t cs hr) hr

/-! ### Values as the frame holds them -/
def R1 (S : Sig) (t : SV) (v : Value) : Prop :=
  match t.isA with
  | true => ∃ cs : Array Value, v = .agg cs ∧ Rf S t cs.toList
  | false => Rf S t [v]
def Rt (S : Sig) : SVs → List Value → Prop
  | .nil, l => l = []
  | .cons a r, l => ∃ x l', l = x :: l' ∧ R1 S a x ∧ Rt S r l'
def R (S : Sig) (t : SV) (v : Value) : Prop :=
  match t with
  | .tup vs => ∃ l : Array Value, v = .tuple l ∧ Rt S vs l.toList
  | t => R1 S t v

theorem R_of_R1 {S : Sig} {t : SV} {v : Value} (h : R1 S t v) : R S t v := by
  cases t <;> first | exact h | (simp [R1, SV.isA, Rf] at h)
theorem R1_of_R {S : Sig} {t : SV} {v : Value} (h : R S t v) (ht : t.isTup = false) : R1 S t v := by
  cases t <;> first | exact h | (simp [SV.isTup] at ht)

theorem R1_cells {S : Sig} {t : SV} {v : Value} (h : R1 S t v) : Rf S t v.cells.toList := by
  unfold R1 at h
  cases hA : t.isA <;> simp only [hA] at h
  · obtain ⟨u, hu, _, hc⟩ := Rf_sc h hA
    simp at hu; subst hu; rw [hc]; exact h
  · obtain ⟨cs, rfl, h⟩ := h; exact h
theorem R1_agg {S : Sig} {t : SV} {cs : List Value} (h : Rf S t cs) (hA : t.isA = true) : R1 S t (.agg cs.toArray) := by
  unfold R1; simp only [hA]; exact ⟨_, rfl, by simpa using h⟩
theorem R1_sc {S : Sig} {t : SV} {v : Value} (h : Rf S t [v]) (hA : t.isA = false) : R1 S t v := by
  unfold R1; simp only [hA]; exact h
theorem R1_sc' {S : Sig} {t : SV} {v : Value} (h : R1 S t v) (hA : t.isA = false) : Rf S t [v] := by
  unfold R1 at h; simp only [hA] at h; exact h
theorem R1_tr {n : Nat} {S S' : Sig} (h : Tr n S S') {t : SV} {v : Value} (hc : t.cl n = true) (hr : R1 S t v) : R1 S' t v := by
  unfold R1 at *
  cases hA : t.isA <;> simp only [hA] at hr ⊢
  · exact Rf_tr h _ _ hc hr
  · obtain ⟨cs, e, hr⟩ := hr; exact ⟨cs, e, Rf_tr h _ _ hc hr⟩
theorem Rt_tr {n : Nat} {S S' : Sig} (h : Tr n S S') : ∀ {t : SVs} {l : List Value}, t.cl n = true → Rt S t l → Rt S' t l
  | .nil, l, hc, hr => hr
  | .cons a r, l, hc, hr => by
    simp [SVs.cl] at hc
    obtain ⟨x, l', e, h1, h2⟩ := hr
    exact ⟨x, l', e, R1_tr h hc.1 h1, Rt_tr h hc.2 h2⟩
theorem R_tr {n : Nat} {S S' : Sig} (h : Tr n S S') {t : SV} {v : Value} (hc : t.cl n = true) (hr : R S t v) : R S' t v := by
  cases t <;> first | exact R1_tr h hc hr | (obtain ⟨l, e, hr⟩ := hr; exact ⟨l, e, Rt_tr h (by simpa [SV.cl] using hc) hr⟩)
theorem R1_cl {S : Sig} {t : SV} {v : Value} (hr : R1 S t v) : t.cl S.sh.length = true := Rf_cl _ _ (R1_cells hr)
theorem Rt_cl {S : Sig} : ∀ {t : SVs} {l : List Value}, Rt S t l → t.cl S.sh.length = true
  | .nil, l, hr => rfl
  | .cons a r, l, hr => by
    obtain ⟨x, l', e, h1, h2⟩ := hr
    simp [SVs.cl, R1_cl h1, Rt_cl h2]
theorem R_cl {S : Sig} {t : SV} {v : Value} (hr : R S t v) : t.cl S.sh.length = true := by
  cases t <;> first | exact R1_cl hr | (obtain ⟨l, e, hr⟩ := hr; simpa [SV.cl] using Rt_cl hr)
theorem R_ext {S S' : Sig} (h : Ext S S') {t : SV} {v : Value} (hr : R S t v) : R S' t v := R_tr (h.tr _) (R_cl hr) hr

/-! ### Parts of values -/
theorem get_off {S : Sig} : ∀ (fs : SVs) (k : Nat) (a : SV) (o : Nat) (s : Shp), fs.get k = some a → fs.shp.off k = some (o, s) →
    ∀ cs, Rfs S fs cs → s = a.shp ∧ o + a.size ≤ cs.length ∧ Rf S a ((cs.drop o).take a.size)
  | .nil, k, a, o, s, h, _, cs, hr => by simp [SVs.get] at h
  | .cons u l, 0, a, o, s, h, h2, cs, hr => by
    simp [SVs.get] at h; subst h
    simp [SVs.shp, Shps.off] at h2; obtain ⟨rfl, rfl⟩ := h2
    simp only [Rfs] at hr
    obtain ⟨c1, c2, rfl, h1, h2⟩ := hr
    have hl := Rf_len u c1 h1
    refine ⟨rfl, by simp [hl], ?_⟩
    rw [← hl]; simpa using h1
  | .cons u l, k + 1, a, o, s, h, h2, cs, hr => by
    simp only [SVs.get] at h
    simp only [SVs.shp, Shps.off] at h2
    cases ho : l.shp.off k with
    | none => simp [ho] at h2
    | some q =>
      obtain ⟨o1, s1⟩ := q
      simp [ho] at h2; obtain ⟨rfl, rfl⟩ := h2
      simp only [Rfs] at hr
      obtain ⟨c1, c2, rfl, h1, h2⟩ := hr
      obtain ⟨e, hb, hrf⟩ := get_off l k a o1 s1 h ho c2 h2
      have hl := Rf_len u c1 h1
      rw [size_shp, ← hl]
      refine ⟨e, by simp; omega, ?_⟩
      rw [List.drop_append, List.drop_eq_nil_of_le (by omega)]
      simpa using hrf

theorem pre_off : ∀ (fs : SVs) (k : Nat) (o : Nat) (a : SV), fs.pre k = some (o, a) → fs.get k = some a ∧ fs.shp.off k = some (o, a.shp)
  | .nil, k, o, a, h => by simp [SVs.pre] at h
  | .cons u l, 0, o, a, h => by simp [SVs.pre] at h; obtain ⟨rfl, rfl⟩ := h; exact ⟨rfl, rfl⟩
  | .cons u l, k + 1, o, a, h => by
    simp only [SVs.pre] at h
    cases ho : l.pre k with
    | none => simp [ho] at h
    | some q =>
      obtain ⟨o1, a1⟩ := q
      simp [ho] at h; obtain ⟨rfl, rfl⟩ := h
      obtain ⟨h1, h2⟩ := pre_off l k o1 a1 ho
      exact ⟨h1, by simp [SVs.shp, Shps.off, h2, size_shp]⟩

theorem get_at {S : Sig} : ∀ (p : List PStep) (t v : SV) (o : Nat) (s : Shp), SV.get t p = some v → t.shp.at p = some (o, s) →
    ∀ cs, Rf S t cs → s = v.shp ∧ o + v.size ≤ cs.length ∧ Rf S v ((cs.drop o).take v.size)
  | [], t, v, o, s, h, h2, cs, hr => by
    simp [SV.get] at h; subst h
    simp [Shp.at] at h2; obtain ⟨rfl, rfl⟩ := h2
    have hl := Rf_len t cs hr
    exact ⟨rfl, by omega, by rw [← hl]; simpa using hr⟩
  | .f k :: p, t, v, o, s, h, h2, cs, hr => by
    cases t with
    | agg fs =>
      simp only [SV.get] at h
      cases hg : fs.get k with
      | none => simp [hg] at h
      | some a =>
        simp only [hg] at h
        simp only [SV.shp, Shp.at] at h2
        cases ho : fs.shp.off k with
        | none => simp [ho] at h2
        | some q =>
          obtain ⟨o1, s1⟩ := q
          simp only [ho] at h2
          cases ha : s1.at p with
          | none => simp [ha] at h2
          | some q2 =>
            obtain ⟨o2, s2⟩ := q2
            simp [ha] at h2; obtain ⟨rfl, rfl⟩ := h2
            simp only [Rf] at hr
            obtain ⟨e, hb, hra⟩ := get_off fs k a o1 s1 hg ho cs hr
            subst e
            obtain ⟨e2, hb2, hrv⟩ := get_at p a v o2 s2 h ha _ hra
            have hla := Rf_len _ _ hra
            refine ⟨e2, by omega, ?_⟩
            have : ((List.drop o2 (List.take a.size (List.drop o1 cs))).take v.size) = (cs.drop (o1 + o2)).take v.size := by
              rw [List.drop_take, List.drop_drop, List.take_take]
              congr 1; omega
            rw [← this]; exact hrv
    | _ => simp [SV.get] at h
  | .x ix :: p, t, v, o, s, h, h2, cs, hr => by
    cases t with
    | arr k n xs =>
      cases p with
      | nil =>
        simp [SV.get] at h; subst h
        simp only [SV.shp, Shp.at] at h2
        split at h2
        · rename_i hb
          simp at h2; obtain ⟨rfl, rfl⟩ := h2
          simp only [Rf] at hr; obtain ⟨hl, rfl⟩ := hr
          have hlt : ix.toNat < xs.length := by omega
          refine ⟨rfl, by simp [SV.size]; omega, ?_⟩
          simp only [SV.size, Rf]
          rw [List.drop_eq_getElem_cons (by simpa using hlt)]
          simp [List.getD_eq_getElem?_getD, List.getElem?_eq_getElem hlt]
        · simp at h2
      | cons _ _ => simp [SV.get] at h
    | _ => simp [SV.get] at h

theorem set_shp : ∀ (fs : SVs) (k : Nat) (a v : SV), fs.get k = some a → v.shp = a.shp → (fs.set k v).shp = fs.shp
  | .nil, _, _, _, h, _ => by simp [SVs.get] at h
  | .cons u l, 0, a, v, h, e => by simp [SVs.get] at h; subst h; simp [SVs.set, SVs.shp, e]
  | .cons u l, k + 1, a, v, h, e => by
    simp only [SVs.get] at h
    simp [SVs.set, SVs.shp, set_shp l k a v h e]

theorem set_off {S : Sig} : ∀ (fs : SVs) (k : Nat) (a v : SV) (o : Nat) (s : Shp), fs.get k = some a → fs.shp.off k = some (o, s) → v.shp = a.shp →
    ∀ cs vs, Rfs S fs cs → Rf S v vs → Rfs S (fs.set k v) (cs.take o ++ vs ++ cs.drop (o + vs.length))
  | .nil, k, a, v, o, s, h, _, _, cs, vs, hr, hv => by simp [SVs.get] at h
  | .cons u l, 0, a, v, o, s, h, h2, e, cs, vs, hr, hv => by
    simp [SVs.get] at h; subst h
    simp [SVs.shp, Shps.off] at h2; obtain ⟨rfl, rfl⟩ := h2
    simp only [Rfs] at hr
    obtain ⟨c1, c2, rfl, h1, h2⟩ := hr
    have hl : c1.length = vs.length := by rw [Rf_len u c1 h1, Rf_len v vs hv, ← size_shp, ← size_shp, e]
    simp only [SVs.set, Rfs]
    refine ⟨vs, c2, ?_, hv, h2⟩
    simp [← hl]
  | .cons u l, k + 1, a, v, o, s, h, h2, e, cs, vs, hr, hv => by
    simp only [SVs.get] at h
    simp only [SVs.shp, Shps.off] at h2
    cases ho : l.shp.off k with
    | none => simp [ho] at h2
    | some q =>
      obtain ⟨o1, s1⟩ := q
      simp [ho] at h2; obtain ⟨rfl, rfl⟩ := h2
      simp only [Rfs] at hr
      obtain ⟨c1, c2, rfl, h1, h2⟩ := hr
      have hl := Rf_len u c1 h1
      have ih := set_off l k a v o1 s1 h ho e c2 vs h2 hv
      simp only [SVs.set, Rfs]
      refine ⟨c1, _, ?_, h1, ih⟩
      rw [size_shp, ← hl]
      simp [List.take_append, List.drop_append, Nat.add_assoc, List.take_of_length_le, List.drop_eq_nil_of_le]

theorem put_at {S : Sig} : ∀ (p : List PStep) (t v t' : SV) (o : Nat) (s : Shp), SV.put t p v = some t' → t.shp.at p = some (o, s) →
    ∀ cs vs, Rf S t cs → Rf S v vs → t'.shp = t.shp ∧ v.shp = s ∧ o + vs.length ≤ cs.length ∧ Rf S t' (cs.take o ++ vs ++ cs.drop (o + vs.length))
  | [], t, v, t', o, s, h, h2, cs, vs, hr, hv => by
    simp [Shp.at] at h2; obtain ⟨rfl, rfl⟩ := h2
    have hs : t.same v = true ∧ v = t' := by
      cases t <;> (simp only [SV.put] at h; split at h <;> simp_all)
    obtain ⟨hs, rfl⟩ := hs
    have e := same_shp _ _ hs
    have hl : cs.length = vs.length := by rw [Rf_len t cs hr, Rf_len v vs hv, ← size_shp, ← size_shp, e]
    refine ⟨e.symm, e.symm, by omega, ?_⟩
    simpa [← hl] using hv
  | .f k :: p, t, v, t', o, s, h, h2, cs, vs, hr, hv => by
    cases t with
    | agg fs =>
      simp only [SV.put] at h
      cases hg : fs.get k with
      | none => simp [hg] at h
      | some a =>
        simp only [hg] at h
        cases hp : SV.put a p v with
        | none => simp [hp] at h
        | some a' =>
          simp [hp] at h; subst h
          simp only [SV.shp, Shp.at] at h2
          cases ho : fs.shp.off k with
          | none => simp [ho] at h2
          | some q =>
            obtain ⟨o1, s1⟩ := q
            simp only [ho] at h2
            cases ha : s1.at p with
            | none => simp [ha] at h2
            | some q2 =>
              obtain ⟨o2, s2⟩ := q2
              simp [ha] at h2; obtain ⟨rfl, rfl⟩ := h2
              simp only [Rf] at hr
              obtain ⟨e, hb, hra⟩ := get_off fs k a o1 s1 hg ho cs hr
              subst e
              obtain ⟨e1, e2, hb2, hrv⟩ := put_at p a v a' o2 s2 hp ha _ vs hra hv
              have hla := Rf_len _ _ hra
              have := set_off fs k a a' o1 _ hg ho e1 cs _ hr hrv
              refine ⟨by simp only [SV.shp]; rw [set_shp fs k a a' hg e1], e2, by omega, ?_⟩
              simp only [Rf]
              have hlen : (List.take o2 (List.take a.size (List.drop o1 cs)) ++ vs ++ List.drop (o2 + vs.length) (List.take a.size (List.drop o1 cs))).length = a.size := by
                rw [Rf_len _ _ hrv, ← size_shp, e1, size_shp]
              rw [hlen] at this
              have eq : cs.take o1 ++ (List.take o2 (List.take a.size (List.drop o1 cs)) ++ vs ++ List.drop (o2 + vs.length) (List.take a.size (List.drop o1 cs))) ++ cs.drop (o1 + a.size) =
                  cs.take (o1 + o2) ++ vs ++ cs.drop (o1 + o2 + vs.length) := by
                rw [List.take_add, List.take_take, Nat.min_eq_left (by omega : o2 ≤ a.size)]
                have hd : List.drop (o2 + vs.length) (List.take a.size (List.drop o1 cs)) ++ List.drop (o1 + a.size) cs = List.drop (o1 + o2 + vs.length) cs := by
                  have h0 : List.drop (o1 + a.size) cs = List.drop a.size (List.drop o1 cs) := by rw [List.drop_drop]
                  rw [h0]
                  have h1 : List.drop (o1 + o2 + vs.length) cs = List.drop (o2 + vs.length) (List.drop o1 cs) := by rw [List.drop_drop]; congr 1; omega
                  rw [h1]
                  have h3 : (List.take a.size (List.drop o1 cs) ++ List.drop a.size (List.drop o1 cs)).drop (o2 + vs.length) = List.drop (o2 + vs.length) (List.take a.size (List.drop o1 cs)) ++ List.drop a.size (List.drop o1 cs) := by
                    rw [List.drop_append_of_le_length (by rw [hla]; omega)]
                  rw [← h3, List.take_append_drop]
                rw [← hd]; simp
              rw [eq] at this; exact this
    | _ => simp [SV.put] at h
  | .x ix :: p, t, v, t', o, s, h, h2, cs, vs, hr, hv => by
    cases t with
    | arr k n xs =>
      cases p with
      | nil =>
        cases v with
        | i k' m =>
          simp only [SV.put] at h
          split at h
          · rename_i hk
            simp at h; subst h
            have := kindEq_eq hk; subst this
            simp only [SV.shp, Shp.at] at h2
            split at h2
            · rename_i hb
              simp at h2; obtain ⟨rfl, rfl⟩ := h2
              simp only [Rf] at hr hv; obtain ⟨hl, rfl⟩ := hr; subst hv
              have hlt : ix.toNat < xs.length := by omega
              refine ⟨rfl, rfl, by simp; omega, ?_⟩
              simp only [Rf]
              refine ⟨by simpa using hl, ?_⟩
              rw [List.set_eq_take_append_cons_drop]
              simp [hlt]
            · simp at h2
          · simp at h
        | _ => simp [SV.put] at h
      | cons _ _ => simp [SV.put] at h
    | _ => simp [SV.put] at h

end Go.Sx
