/- SxC: contracts: what is known of a call of a function. -/
import Derived.Test.YtmgaphghjhbhhaaSx11
namespace Go.Sx
open Go.RowKit (Below)
set_option linter.unusedVariables false
set_option linter.unusedSimpArgs false

theorem All2.get {r : SV → Value → Prop} : ∀ {l : List SV} {m : List Value}, All2 r l m → ∀ (i : Nat) v, l[i]? = some v → ∃ x, m[i]? = some x ∧ r v x
  | _, _, .nil, i, v, h => by simp at h
  | _, _, .cons h1 h2, 0, v, h => by simp at h; subst h; exact ⟨_, rfl, h1⟩
  | _, _, .cons h1 h2, i + 1, v, h => by obtain ⟨x, e, hx⟩ := h2.get i v (by simpa using h); exact ⟨x, by simpa using e, hx⟩
theorem All2.len {r : SV → Value → Prop} : ∀ {l : List SV} {m : List Value}, All2 r l m → l.length = m.length
  | _, _, .nil => rfl
  | _, _, .cons _ h2 => by simp [h2.len]
theorem All2.imp {r s : SV → Value → Prop} : ∀ {l : List SV} {m : List Value}, All2 r l m → (∀ a ∈ l, ∀ b, r a b → s a b) → All2 s l m
  | _, _, .nil, _ => .nil
  | _, _, .cons h1 h2, h => .cons (h _ (by simp) _ h1) (h2.imp fun a ha => h a (by simp [ha]))

def CallsTo (E : Env) (f : FuncId) (vs : Array Value) (S : Sig) (w : World) (K : SV → Mem → Prop) : Prop :=
  Calls E.P f vs w fun e w' => ∃ S' sv M' v, Ext S S' ∧ Rep S' M' w' ∧ K sv M' ∧ e = .returned v ∧ R S' sv v

/-- A world that knows what w knew, but for block g. -/
structure Kept (w w' : World) (g : Option Nat) : Prop where
  os : w'.os = w.os
  tape : w'.tape = w.tape
  out : w'.output = w.output
  size : w.heap.size ≤ w'.heap.size
  blk : ∀ k, k < w.heap.size → g ≠ some k → w'.heap[k]? = w.heap[k]?

def ConOK (E : Env) (f : FuncId) : Con → Prop
  | .pure pre f' => ∀ (args : List SV) (r : SV), f' args = some r → pre args → clAll 0 args = true → ∀ (S : Sig) (w : World) (vs : Array Value), Base S → S.F = w → S.g = none → S.sh = [] → Glob E S → All2 (R S) args vs.toList →
      Calls E.P f vs w fun e w' => ∃ v, e = .returned v ∧ r.cl 0 = true ∧ R S r v ∧ Kept w w' none
  | .mth pt => ∀ (t : SV) (args : List SV) (K : SV → SV → Prop), pt t args K → t.cl 0 = true → clAll 0 args = true → ∀ (S : Sig) (w : World) (b : Nat) (cs : Array Value) (el : TypeId) (vs : List Value), Base S → S.F = w → S.g = some b → S.sh = [t.shp] → S.ρ 0 = b →
      w.heap[b]? = some (.cells cs el (0, 0)) → Rf S t cs.toList → Glob E S → All2 (R S) args vs →
      Calls E.P f (.pointer (some ⟨b, 0, none⟩) :: vs).toArray w fun e w' => ∃ r t' v cs', K r t' ∧ e = .returned v ∧ r.cl 0 = true ∧ R S r v ∧ t'.cl 0 = true ∧ t'.shp = t.shp ∧
        (∃ el', w'.heap[b]? = some (.cells cs' el' (0, 0))) ∧ Rf S t' cs'.toList ∧ Kept w w' (some b)

def GamOK (E : Env) : Prop := ∀ f c, E.gam f = some c → ConOK E f c

theorem clAll_mem {n : Nat} : ∀ {l : List SV}, clAll n l = true → ∀ a ∈ l, a.cl n = true
  | [], h, a, ha => by simp at ha
  | v :: l, h, a, ha => by
    simp [clAll] at h
    rcases List.mem_cons.1 ha with e | e
    · subst e; exact h.1
    · exact clAll_mem h.2 a e

/-- The caller's own words, for a callee. -/
def Sig.sub (S : Sig) (w : World) (g : Option Nat) (ρ : Nat → Nat) (sh : List Shp) : Sig := { W := S.W, F := w, g := g, ρ := ρ, sh := sh }

theorem Rep.sub_base {S : Sig} {M : Mem} {w : World} (h : Rep S M w) {g : Option Nat} {ρ : Nat → Nat} {sh : List Shp} (hg : ∀ b, g = some b → S.W.heap.size ≤ b) : Base (S.sub w g ρ sh) :=
  ⟨Nat.le_trans h.base.size h.size, fun k hk => by
    show w.heap[k]? = S.W.heap[k]?
    have hs := h.base.size
    have hk' : k < S.W.heap.size := hk
    rw [h.kept k (by omega) (fun e => by have := h.base.g _ e; omega), h.base.same k hk'], hg⟩

theorem sub_tr {S : Sig} {w : World} {g : Option Nat} {ρ : Nat → Nat} {sh : List Shp} : Tr 0 S (S.sub w g ρ sh) := ⟨fun _ _ h => h, fun j hj => by omega⟩
theorem sub_rt {S : Sig} {w : World} {g : Option Nat} {ρ : Nat → Nat} {sh : List Shp} : Tr 0 (S.sub w g ρ sh) S := ⟨fun _ _ h => h, fun j hj => by omega⟩

theorem Glob.sub {E : Env} {S : Sig} {w : World} {g : Option Nat} {ρ : Nat → Nat} {sh : List Shp} (h : Glob E S) : Glob E (S.sub w g ρ sh) := fun x t e =>
  let ⟨ds, h0, h1, h2⟩ := h x t e; ⟨ds, h0, Rf_tr sub_tr t ds h0 h1, h2⟩

theorem Rep.lt {S : Sig} {M : Mem} {w : World} (h : Rep S M w) {i : Nat} (hi : i < M.length) : S.ρ i < w.heap.size := by
  obtain ⟨c, e, k, _⟩ := h.blk i _ (List.getElem?_eq_getElem hi)
  exact (Array.getElem?_eq_some_iff.1 k).1

theorem Rep.after {S : Sig} {M : Mem} {w w' : World} (h : Rep S M w) (hk : Kept w w' none) : Rep S M w' := by
  refine ⟨h.base, h.sh, Nat.le_trans h.size hk.size, fun k h1 h2 => ?_, hk.os.trans h.os, hk.tape.trans h.tape, hk.out.trans h.out, h.inj, h.new, fun i t hi => ?_⟩
  · have := h.size
    rw [hk.blk k (by omega) (by simp)]; exact h.kept k h1 h2
  · obtain ⟨cs, el, k1, k2⟩ := h.blk i t hi
    have hil : i < M.length := by
      rcases Nat.lt_or_ge i M.length with h | h
      · exact h
      · simp [List.getElem?_eq_none h] at hi
    exact ⟨cs, el, by rw [hk.blk _ (h.lt hil) (by simp)]; exact k1, k2⟩

theorem conK_sound {E : Env} {f : FuncId} {c : Con} (hc : ConOK E f c) {args : List SV} {M : Mem} {K : SV → Mem → Prop} (hk : conK c args M K)
    {S : Sig} {w : World} {vs : Array Value} (hG : Glob E S) (h : Rep S M w) (hr : All2 (R S) args vs.toList) : CallsTo E f vs S w K := by
  unfold conK at hk
  split at hk
  · rename_i pre f'
    split at hk
    · rename_i r hf
      obtain ⟨h1, hp, hk2⟩ := onB_out hk
      unfold CallsTo
      refine (hc args r hf hp h1 (S.sub w none S.ρ []) w vs (h.sub_base (by simp)) rfl rfl rfl hG.sub (hr.imp fun a ha b hb => R_tr sub_tr (clAll_mem h1 a ha) hb)).mono ?_
      rintro e w' ⟨v, k2, k3, k4, k5⟩
      exact ⟨S, r, M, v, Ext.refl S, h.after k5, hk2, k2, R_tr sub_rt k3 k4⟩
    · exact hk.elim
  · rename_i pt
    split at hk
    · rename_i b l
      split at hk
      · rename_i t hm
        obtain ⟨h1, hk2⟩ := onB_out hk
        simp at h1
        obtain ⟨c1, c2⟩ := h1
        have hm' := hm
        rw [getM_eq] at hm'
        obtain ⟨cs, el, e1, e2⟩ := h.blk b t hm'
        have hbl : b < M.length := by
          rcases Nat.lt_or_ge b M.length with h | h
          · exact h
          · simp [List.getElem?_eq_none h] at hm'
        obtain ⟨v0, vs', hvs, hv0, hr'⟩ : ∃ v0 vs', vs.toList = v0 :: vs' ∧ R S (.ptr b []) v0 ∧ All2 (R S) l vs' := by
          revert hr; generalize vs.toList = l'
          intro hr
          cases hr with
          | cons a1 a2 => exact ⟨_, _, rfl, a1, a2⟩
        have hp : v0 = .pointer (some ⟨S.ρ b, 0, none⟩) := by
          have hv : Rf S (.ptr b []) [v0] := hv0
          simp only [Rf] at hv
          obtain ⟨s, o, s', _, z2, z3⟩ := hv
          simp [Shp.at] at z2 z3
          rw [z3, ← z2.1]
        subst hp
        have hWb : S.W.heap.size ≤ S.ρ b := by
          rcases h.new b hbl with e | e
          · exact h.base.g _ e
          · exact Nat.le_trans h.base.size e
        unfold CallsTo
        have hc' := hc t l _ hk2 c1 c2 (S.sub w (some (S.ρ b)) (fun _ => S.ρ b) [t.shp]) w (S.ρ b) cs el vs' (h.sub_base (by rintro _ ⟨⟩; exact hWb)) rfl rfl rfl rfl e1 (Rf_tr sub_tr t _ c1 e2) hG.sub (hr'.imp fun a ha b hb => R_tr sub_tr (clAll_mem c2 a ha) hb)
        have hva : vs = (Value.pointer (some ⟨S.ρ b, 0, none⟩) :: vs').toArray := Array.toList_inj.1 (by simpa using hvs)
        rw [hva]
        refine hc'.mono ?_
        rintro e w' ⟨r, t', v, cs', k1, k2, k3, k4, k5, k6, k7, k8, k9⟩
        refine ⟨S, r, _, v, Ext.refl S, ?_, k1, k2, R_tr sub_rt k3 k4⟩
        rw [setM_eq]
        refine ⟨h.base, ?_, Nat.le_trans h.size k9.size, ?_, k9.os.trans h.os, k9.tape.trans h.tape, k9.out.trans h.out, by simpa using h.inj, by simpa using h.new, ?_⟩
        · rw [h.sh, List.map_set, k6]
          apply List.ext_getElem?
          intro j
          by_cases hj : b = j
          · subst hj; simp [hbl]; rw [List.getElem?_eq_getElem hbl] at hm'; simp at hm'; rw [hm']
          · simp [hj]
        · intro k q1 q2
          have := h.size
          rw [k9.blk k (by omega) ?_]
          · exact h.kept k q1 q2
          · intro e
            simp at e; subst e
            rcases h.new b hbl with e | e
            · exact q2 e
            · omega
        · intro i u hu
          by_cases hi : b = i
          · subst hi; simp [hbl] at hu; subst hu
            obtain ⟨el', k7⟩ := k7
            exact ⟨cs', el', k7, Rf_tr sub_rt t' _ k5 k8⟩
          · rw [List.getElem?_set_ne hi] at hu
            obtain ⟨c3, e3, j1, j2⟩ := h.blk i u hu
            have hil : i < M.length := by
              rcases Nat.lt_or_ge i M.length with h | h
              · exact h
              · simp [List.getElem?_eq_none h] at hu
            refine ⟨c3, e3, ?_, j2⟩
            rw [k9.blk _ (h.lt hil) ?_]
            · exact j1
            · intro e; simp at e; exact hi (h.inj _ _ hbl hil e)
      · exact hk.elim
    · exact hk.elim

end Go.Sx
