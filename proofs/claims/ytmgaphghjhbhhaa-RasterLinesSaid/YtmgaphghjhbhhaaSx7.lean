/- Sx7: addresses, parts, literals, builtins. -/
import Derived.Test.YtmgaphghjhbhhaaSx6
namespace Go.Sx
open Go.RowKit (Below)
set_option linter.unusedVariables false
set_option linter.unusedSimpArgs false

theorem at_snoc : ∀ (p : List PStep) (s s' s2 : Shp) (o o2 : Nat) (q : PStep), s.at p = some (o, s') → s'.at [q] = some (o2, s2) → s.at (p ++ [q]) = some (o + o2, s2)
  | [], s, s', s2, o, o2, q, h, h2 => by
    simp [Shp.at] at h; obtain ⟨rfl, rfl⟩ := h
    simpa using h2
  | .f k :: p, s, s', s2, o, o2, q, h, h2 => by
    cases s with
    | nd l =>
      simp only [Shp.at] at h
      simp only [List.cons_append, Shp.at]
      cases ho : l.off k with
      | none => simp [ho] at h
      | some x =>
        obtain ⟨o1, s1⟩ := x
        simp only [ho] at h ⊢
        cases ha : s1.at p with
        | none => simp [ha] at h
        | some y =>
          obtain ⟨o3, s3⟩ := y
          simp [ha] at h; obtain ⟨rfl, rfl⟩ := h
          rw [at_snoc p s1 _ s2 o3 o2 q ha h2]
          simp; omega
    | _ => simp [Shp.at] at h
  | .x ix :: p, s, s', s2, o, o2, q, h, h2 => by
    cases s with
    | ar k n =>
      cases p with
      | nil =>
        simp only [Shp.at] at h
        split at h
        · simp at h; obtain ⟨rfl, rfl⟩ := h
          cases q <;> simp [Shp.at] at h2
        · simp at h
      | cons _ _ => simp [Shp.at] at h
    | _ => simp [Shp.at] at h

theorem Addr.add_mk (b o n : Nat) : (⟨b, o, none⟩ : Addr).add n = ⟨b, o + n, none⟩ := Addr.add_none b o n

section
variable {P : Program} {S : Sig} {M : Mem} {w : World}

/-- The pointer behind one more step. -/
theorem Rep.snoc (h : Rep S M w) {b : Nat} {p : List PStep} {v : Value} {t u : SV} (hr : R S (.ptr b p) v) (hm : getM M b = some t) (hg : SV.get t p = some u) {q : PStep} {o2 : Nat} {s2 : Shp}
    (h2 : u.shp.at [q] = some (o2, s2)) : ∃ o, v = .pointer (some ⟨S.ρ b, o, none⟩) ∧ R S (.ptr b (p ++ [q])) (.pointer (some ⟨S.ρ b, o + o2, none⟩)) := by
  obtain ⟨o, cs, el, e, h1, _, _, _, _⟩ := h.addr hr hm hg
  refine ⟨o, e, ?_⟩
  show Rf S _ _
  simp only [Rf]
  rw [getM_eq] at hm
  exact ⟨t.shp, o + o2, s2, by rw [h.sh]; simp [hm], at_snoc p _ _ _ _ _ _ h1 h2, rfl⟩

theorem Old.sub {a : Addr} {ds : List Value} (h : Old S a ds) (o n : Nat) : Old S (a.add o) ((ds.drop o).take n) := by
  obtain ⟨h1, h3⟩ := h
  have hb : (a.add o).block = a.block := by unfold Addr.add; split <;> rfl
  refine ⟨by rw [hb]; exact h1, ?_⟩
  intro j v hj
  rw [Addr.add_add]
  rw [List.getElem?_take] at hj
  split at hj
  · rw [List.getElem?_drop] at hj; exact h3 _ _ hj
  · simp at hj

theorem R_cptr_mk {t : SV} {a : Addr} {ds : List Value} (h0 : t.cl 0 = true) (h1 : Rf S t ds) (h2 : Old S a ds) : R S (.cptr t) (.pointer (some a)) := by
  show Rf S _ _
  simp only [Rf]; exact ⟨a, ds, h0, h1, h2, rfl⟩

theorem pre_Rfs : ∀ (fs : SVs) (k o : Nat) (a : SV), fs.pre k = some (o, a) → ∀ cs, Rfs S fs cs → o + a.size ≤ cs.length ∧ Rf S a ((cs.drop o).take a.size) := by
  intro fs k o a h cs hr
  obtain ⟨h1, h2⟩ := pre_off fs k o a h
  obtain ⟨_, h3, h4⟩ := get_off fs k a o _ h1 h2 cs hr
  exact ⟨h3, h4⟩

theorem pre_cl {n : Nat} : ∀ (fs : SVs) (k o : Nat) (a : SV), fs.pre k = some (o, a) → fs.cl n = true → a.cl n = true
  | .nil, k, o, a, h, _ => by simp [SVs.pre] at h
  | .cons u l, 0, o, a, h, hc => by simp [SVs.pre] at h; obtain ⟨_, rfl⟩ := h; simp [SVs.cl] at hc; exact hc.1
  | .cons u l, k + 1, o, a, h, hc => by
    simp only [SVs.pre] at h
    cases ho : l.pre k with
    | none => simp [ho] at h
    | some q =>
      obtain ⟨o1, a1⟩ := q
      simp [ho] at h; obtain ⟨rfl, rfl⟩ := h
      simp [SVs.cl] at hc; exact pre_cl l k o1 a1 ho hc.2

theorem fieldK_out {T : TypeId} {f : Nat} {t : SV} {K : SV → Prop} (hk : fieldK P T f t K) :
    ∃ fs o ft a, t = .agg fs ∧ fOff P T f = some (o, ft) ∧ fs.pre f = some (o, a) ∧ P.cellsOf ft = a.size ∧ P.cellsOf ft ≠ 0 ∧ K a := by
  unfold fieldK at hk
  split at hk
  · rename_i fs
    split at hk
    · rename_i o ft o' a h1 h2
      obtain ⟨h3, hk2⟩ := onB_out hk
      simp at h3
      obtain ⟨e1, e2, e3⟩ := h3
      rw [← e1] at h2
      exact ⟨fs, _, _, _, rfl, h1, h2, e2, by rw [e2]; exact nbeq0 e3, hk2⟩
    · exact hk.elim
  · exact hk.elim

theorem fOff_out {T : TypeId} {f o : Nat} {ft : TypeId} (h : fOff P T f = some (o, ft)) : ∃ fs fl, P.underlying T = some (.struct fs) ∧ fs[f]? = some fl ∧ fl.offset = o ∧ fl.type = ft := by
  unfold fOff at h
  split at h
  · rename_i fs hu
    split at h
    · rename_i fl hf
      simp at h; exact ⟨fs, fl, hu, hf, h.1, h.2⟩
    · simp at h
  · simp at h

theorem run_fieldAt {T : TypeId} {f o : Nat} {ft : TypeId} {a : Addr} (h : fOff P T f = some (o, ft)) (hc : P.cellsOf ft ≠ 0) :
    (Instr.fieldAt T (.pointer (some a)) f).run P w = .ok (.pointer (some (a.add o))) w := by
  obtain ⟨fs, fl, hu, hf, rfl, rfl⟩ := fOff_out h
  simp [Instr.fieldAt, run_underlying hu, hf, Instr.sureAddr, fieldPlace, run_sizeOf' hc, hc]

theorem fieldAddrK_sound (h : Rep S M w) {T : TypeId} {f : Nat} {p : SV} {v : Value} {K : SV → Prop} (hk : fieldAddrK P T f p M K) (hr : R S p v) :
    ∃ sv v', K sv ∧ (Instr.fieldAt T v f).run P w = .ok v' w ∧ R S sv v' := by
  unfold fieldAddrK at hk
  split at hk
  · rename_i b p
    split at hk
    · rename_i t hm
      split at hk
      · rename_i u hg
        obtain ⟨fs, o, ft, a, rfl, h1, h2, h3, h4, hk⟩ := fieldK_out hk
        obtain ⟨e1, e2⟩ := pre_off _ _ _ _ h2
        obtain ⟨o0, rfl, hr'⟩ := h.snoc (q := .f f) (o2 := o) (s2 := a.shp) hr hm hg (by simp [SV.shp, Shp.at, e2])
        exact ⟨_, _, hk, by rw [run_fieldAt h1 h4, Addr.add_none], hr'⟩
      · exact hk.elim
    · exact hk.elim
  · rename_i t
    obtain ⟨fs, o, ft, a, rfl, h1, h2, h3, h4, hk⟩ := fieldK_out hk
    obtain ⟨ad, ds, rfl, c0, c1, c2⟩ := R_cptr hr
    simp only [Rf] at c1
    obtain ⟨_, r1⟩ := pre_Rfs fs f o a h2 ds c1
    refine ⟨_, _, hk, run_fieldAt h1 h4, R_cptr_mk ?_ r1 (c2.sub o _)⟩
    exact pre_cl fs f o a h2 (by simpa [SV.cl] using c0)
  · exact hk.elim

theorem fieldV_sound {T : TypeId} {f : Nat} {t : SV} {v : Value} {K : SV → Prop}
    (hk : fieldK P T f t (fun v => match fOff P T f with
      | some (_, ft) => onB (ldOK P ft v) (K v)
      | none => False)) (hr : R S t v) : ∃ sv v', K sv ∧ (Instr.field T v f).run P w = .ok v' w ∧ R S sv v' := by
  obtain ⟨fs, o, ft, a, rfl, h1, h2, h3, h4, hk1⟩ := fieldK_out hk
  simp only [h1] at hk1
  obtain ⟨hl, hk2⟩ := onB_out hk1
  obtain ⟨cs, rfl, hr2⟩ := R_agg hr
  obtain ⟨_, r1⟩ := pre_Rfs fs f o a h2 cs.toList hr2
  obtain ⟨v', e, r⟩ := run_part_at (w := w) r1 hl
  obtain ⟨fl, g, hu, hf, e1, e2⟩ := fOff_out h1
  refine ⟨a, v', hk2, ?_, R_of_R1 r⟩
  simp [Instr.field, run_underlying hu, hf, asAgg, e1, e2, e]

/-! ### Elements -/
theorem inB_out {i : Int} {n : Nat} (h : inB i n = true) : 0 ≤ i ∧ i < n := by simpa [inB] using h

theorem elemK_out {T : TypeId} {t : SV} {ix : Int} {K : PStep → SV → Prop} (hk : elemK P T t ix K) :
    ∃ n e q a o, P.underlying T = some (.array n e) ∧ 0 ≤ ix ∧ ix < n ∧ P.cellsOf e ≠ 0 ∧ o = ix.toNat * P.cellsOf e ∧ K q a ∧ t.shp.at [q] = some (o, a.shp) ∧ a.size = P.cellsOf e ∧ (∀ m, t.cl m = true → a.cl m = true) ∧
      ∀ (S : Sig) cs, Rf S t cs → Rf S a ((cs.drop o).take a.size) := by
  unfold elemK at hk
  split at hk
  · rename_i n e hT
    have hu : P.underlying T = some (.array n e) := by
      unfold arrT at hT
      split at hT
      · rename_i hu; simp at hT; obtain ⟨rfl, rfl⟩ := hT; exact hu
      · simp at hT
    split at hk
    · rename_i k m xs
      obtain ⟨h1, hk2⟩ := onB_out hk
      obtain ⟨h2, hk3⟩ := onB_out hk2
      simp at h1
      obtain ⟨e0, h1⟩ := h1
      obtain ⟨i0, i1⟩ := inB_out h2
      subst e0
      refine ⟨n, e, _, _, ix.toNat, hu, i0, i1, by omega, by rw [h1]; simp, hk3, by simp [SV.shp, Shp.at, i0, i1], by simp [SV.size, h1], by simp [SV.cl], ?_⟩
      intro S cs hr
      obtain ⟨_, _, h5⟩ := get_at (S := S) [.x ix] (.arr k n xs) _ ix.toNat .sc rfl (by simp [SV.shp, Shp.at, i0, i1]) cs hr
      exact h5
    · rename_i fs
      obtain ⟨h2, hk2⟩ := onB_out hk
      obtain ⟨i0, i1⟩ := inB_out h2
      split at hk2
      · rename_i o a hp
        obtain ⟨h3, hk3⟩ := onB_out hk2
        simp at h3
        obtain ⟨e1, e2, e3⟩ := h3
        obtain ⟨p1, p2⟩ := pre_off _ _ _ _ hp
        refine ⟨n, e, _, _, o, hu, i0, i1, by rw [← e2]; exact nbeq0 e3, e1, hk3, by simp [SV.shp, Shp.at, p2], e2, fun m hm => pre_cl fs _ _ _ hp (by simpa [SV.cl] using hm), ?_⟩
        intro S cs hr
        simp only [Rf] at hr
        exact (pre_Rfs fs _ _ _ hp cs hr).2
      · exact hk2.elim
    · exact hk.elim
  · exact hk.elim

theorem run_indexAt_arr {T e : TypeId} {n : Nat} {k : IntKind} {i : Int} {a : Addr} (hu : P.underlying T = some (.array n e)) (h0 : 0 ≤ i) (h1 : i < n) (hc : P.cellsOf e ≠ 0) :
    (Instr.indexAt T (.pointer (some a)) (.int k i)).run P w = .ok (.pointer (some (a.add (i.toNat * P.cellsOf e)))) w := by
  simp [Instr.indexAt, asIntOf, run_underlying hu, Instr.sureAddr, h0, h1, run_sizeOf' hc]

theorem run_indexAt_sl {T e : TypeId} {n cap : Nat} {k : IntKind} {i : Int} {a : Addr} (hu : P.underlying T = some (.slice e)) (h0 : 0 ≤ i) (h1 : i < n) (hc : P.cellsOf e ≠ 0) :
    (Instr.indexAt T (.slice (some a) n cap) (.int k i)).run P w = .ok (.pointer (some (a.add (i.toNat * P.cellsOf e)))) w := by
  simp [Instr.indexAt, asIntOf, run_underlying hu, h0, h1, run_sizeOf' hc]

theorem sliT_out {T e : TypeId} (h : sliT P T = some e) : P.underlying T = some (.slice e) := by
  unfold sliT at h
  split at h
  · rename_i hu; simp at h; subst h; exact hu
  · simp at h

theorem indexAddrK_sound (h : Rep S M w) {T : TypeId} {p ix : SV} {v vi : Value} {K : SV → Prop} (hk : indexAddrK P T p ix M K) (hr : R S p v) (hi : R S ix vi) :
    ∃ sv v', K sv ∧ (Instr.indexAt T v vi).run P w = .ok v' w ∧ R S sv v' := by
  unfold indexAddrK at hk
  split at hk
  · rename_i k n
    rw [R_i hi]
    split at hk
    · rename_i b p
      split at hk
      · rename_i t hm
        split at hk
        · rename_i u hg
          obtain ⟨m, e, q, a, o, hu, i0, i1, hc, ho, hk, hs, hz, _, _⟩ := elemK_out hk
          obtain ⟨o0, rfl, hr'⟩ := h.snoc (q := q) hr hm hg hs
          exact ⟨_, _, hk, by rw [run_indexAt_arr hu i0 i1 hc, Addr.add_none, ← ho], hr'⟩
        · exact hk.elim
      · exact hk.elim
    · obtain ⟨m, e, q, a, o, hu, i0, i1, hc, ho, hk, hs, hz, hcl, hR⟩ := elemK_out hk
      obtain ⟨ad, ds, rfl, c0, c1, c2⟩ := R_cptr hr
      refine ⟨_, _, hk, run_indexAt_arr hu i0 i1 hc, R_cptr_mk (hcl 0 c0) (hR S ds c1) ?_⟩
      rw [← ho]; exact c2.sub o _
    · rename_i b p off len cap
      split at hk
      · rename_i e hT
        obtain ⟨h1, hk2⟩ := onB_out hk
        obtain ⟨h2, hk3⟩ := onB_out hk2
        simp at h1
        obtain ⟨i0, i1⟩ := inB_out h2
        have hr' : Rf S (.sl b p off len cap) [v] := hr
        simp only [Rf] at hr'
        obtain ⟨s, o, k', m, a, z1, z2, z3, z4, z5, z6, z7, z8⟩ := hr'
        simp at z5; subst z5
        refine ⟨_, _, hk3, run_indexAt_sl (sliT_out hT) i0 i1 (by omega), ?_⟩
        show Rf S _ _
        simp only [Rf]
        refine ⟨s, o + (Int.ofNat off + n).toNat, .sc, z1, at_snoc p s _ _ _ _ _ z2 ?_, ?_⟩
        · simp only [Shp.at]
          rw [if_pos (by constructor <;> (simp; omega))]
        · have := z8 (by omega)
          rw [h1]
          have ea : a = ⟨S.ρ b, o + off, none⟩ := by
            cases a; simp_all
          rw [ea, Addr.add_none]
          simp; omega
      · exact hk.elim
    · rename_i k' xs
      split at hk
      · rename_i e hT
        obtain ⟨h1, hk2⟩ := onB_out hk
        obtain ⟨h2, hk3⟩ := onB_out hk2
        simp at h1
        obtain ⟨i0, i1⟩ := inB_out h2
        have hr' : Rf S (.roi k' xs) [v] := hr
        simp only [Rf] at hr'
        obtain ⟨a, cap, z1, z2, z3, z4⟩ := hr'
        simp at z2; subst z2
        cases a with
        | none => have := z3 rfl; subst this; simp at i1; omega
        | some a =>
          have hne : xs ≠ [] := by rintro rfl; simp at i1; omega
          have ho := (z4 a rfl).resolve_left hne
          refine ⟨_, _, hk3, run_indexAt_sl (sliT_out hT) i0 i1 (by omega), R_cptr_mk (by simp [SV.cl]) (ds := [.int k' (xs.getD n.toNat 0)]) (by simp [Rf]) ?_⟩
          have hs := ho.sub (n.toNat * P.cellsOf e) 1
          rw [h1] at hs ⊢
          have hlt : n.toNat < xs.length := by omega
          have : ((xs.map (Value.int k')).drop (n.toNat * 1)).take 1 = [.int k' (xs.getD n.toNat 0)] := by
            rw [Nat.mul_one, List.drop_eq_getElem_cons (by simpa using hlt)]
            simp [List.getD_eq_getElem?_getD, List.getElem?_eq_getElem hlt]
          rw [this] at hs; exact hs
      · exact hk.elim
    · rename_i m g
      split at hk
      · rename_i e hT
        obtain ⟨h2, hk2⟩ := onB_out hk
        obtain ⟨h1, hk3⟩ := onB_out hk2
        simp at h1
        obtain ⟨h1, h5⟩ := h1
        obtain ⟨i0, i1⟩ := inB_out h2
        have hr' : Rf S (.ros m g) [v] := hr
        simp only [Rf] at hr'
        obtain ⟨a, cap, z1, z2, z3, z4⟩ := hr'
        simp at z2; subst z2
        obtain ⟨y0, ds, y1, y2⟩ := z4 n.toNat (by omega)
        cases a with
        | none => have := z3 rfl; omega
        | some a =>
          refine ⟨_, _, hk3, run_indexAt_sl (sliT_out hT) i0 i1 (nbeq0 h5), R_cptr_mk y0 y1 ?_⟩
          rw [← h1]; exact y2 a rfl
      · exact hk.elim
    · exact hk.elim
  · exact hk.elim

end

end Go.Sx
