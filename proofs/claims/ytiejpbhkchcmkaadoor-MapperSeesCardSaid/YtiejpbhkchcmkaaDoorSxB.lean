/-
  Sx9: every operation: what the evaluator says of it the model does.
  Sx10: frames, guards, regions.
  Sx11: regions, code, loops, functions, calls: what the evaluator says the model does.
  SxC: contracts: what is known of a call of a function.
  SxD1: an operation that makes no memory is a function of what it looks at.
  SxE1: where no loop has a contract the evaluator goes on with one thing alone.
  SxD2: regions whose order is open: what the text's order tells holds of every order.
  SxD3: the theorem of such regions.
  SxD4: the theorem of the regions whose order is open.
  SxD5: every order of such a region ends where the text's order does.
  Sx12: code, loops, functions, calls: what the evaluator says the model does.
  Sx13: functions, calls, contracts.
  Sx14: what a call is given: the arguments, as symbolic values.
  Sx15: from a function that returns true, whatever memory lies there, to the walk that a row asks.
  Sx16: all of a row's arguments at once: opened ahead of the call, shut behind it.
-/
import Derived.Test.YtiejpbhkchcmkaaDoorSxA
import Derived.Laws.MakeOwn
import Derived.Orders
import Derived.OpenShut
import Derived.Carry
import Derived.ChangeShapes
namespace Go.Sx
open Go.RowKit (Below)
set_option linter.unusedVariables false
set_option linter.unusedSimpArgs false

inductive All2 (r : SV → Value → Prop) : List SV → List Value → Prop
  | nil : All2 r [] []
  | cons {a : SV} {b : Value} {l : List SV} {m : List Value} : r a b → All2 r l m → All2 r (a :: l) (b :: m)

def Glob (E : Env) (S : Sig) : Prop := ∀ g t, E.glob g = some t → ∃ ds, t.cl 0 = true ∧ Rf S t ds ∧ Old S ⟨g, 0, none⟩ ds

theorem Glob.ext {E : Env} {S S' : Sig} (h : Glob E S) (hE : Ext S S') : Glob E S' := fun g t e =>
  let ⟨ds, h0, h1, h2⟩ := h g t e; ⟨ds, h0, Rf_ext hE h1, hE.old h2⟩

structure EnvOK (E : Env) : Prop where
  det : E.det = true → ∀ f i, E.loop f i = none
  mixed : E.P.follows .mixedOrders = true
  zero : ∀ T z, E.zero T = some z → ∃ i v, E.P.info? T = some i ∧ i.zero = some v ∧ ∀ S, R1 S z v
  meth : ∀ t name g d, E.meth t name = some (g, d) → ∀ a w, (method (E.P.types.size + Made.depth) t (.pointer (some a)) name).run E.P w = .ok (g, .pointer (some a)) w

/-- What is gone on with is one thing alone. -/
def Det2 {α β : Type} (F : (α → β → Prop) → Prop) : Prop := ∀ K, F K → ∃ a b, K a b ∧ ∀ K' : α → β → Prop, K' a b → F K'
def CallOK (E : Env) (call : CallT) : Prop := (E.det = true → ∀ f args M, Det2 (call f args M)) ∧ ∀ (f : FuncId) (args : List SV) (M : Mem) (K : SV → Mem → Prop), call f args M K → okF E.P f = true →
  ∀ (S : Sig) (w : World) (vs : Array Value), Glob E S → Rep S M w → All2 (R S) args vs.toList →
    Calls E.P f vs w fun e w' => ∃ S' sv M' v, Ext S S' ∧ Rep S' M' w' ∧ K sv M' ∧ e = .returned v ∧ R S' sv v

theorem wp_val {P : Program} {o : Oper} {a : Act} {w w' : World} {next : Act → World → Prop} {Q : Exit → Act → World → Prop} {s : Sem Value} {v : Value}
    (he : execOp a.eval o = (do pure (.value (← s)))) (hr : s.run P w = .ok v w') (hn : next (a.put o.dst v) w') : o.wp P a w next Q := by
  unfold Oper.wp
  rw [he]
  simp only [Sem.run_bind, hr, Result.andThen_ok, Sem.run_pure, Oper.upon_value]
  exact hn

theorem okF_out {P : Program} {f : FuncId} (h : okF P f = true) : ∃ fn, P.funcs[f]? = some fn ∧ (fn.name == "runtime.NumGoroutine") = false ∧ fn.body.isNone = false := by
  unfold okF at h
  split at h
  · rename_i fn hf
    simp at h
    refine ⟨fn, hf, by simpa using h.1, ?_⟩
    have := h.2
    cases hb : fn.body <;> simp_all
  · simp at h

theorem run_callFunc {P : Program} {f : FuncId} (h : okF P f = true) (args : Array Value) (w : World) : (callFunc f args).run P w = .ok (.enter f args) w := by
  obtain ⟨fn, h1, h2, h3⟩ := okF_out h
  have h4 : fn.name ≠ "runtime.NumGoroutine" := by intro e; simp [e] at h2
  have h5 : fn.body ≠ none := by intro e; simp [e] at h3
  simp [callFunc, h1, h4, h5]

theorem evAll_R {S : Sig} {ev : Operand → Option SV} {a : Act} (hev : ∀ x sv, ev x = some sv → R S sv (a.eval x)) : ∀ (l : List Operand) (vs : List SV), evAll ev l = some vs → All2 (R S) vs (l.map a.eval)
  | [], vs, h => by simp [evAll] at h; subst h; exact .nil
  | o :: l, vs, h => by
    simp only [evAll] at h
    split at h
    · rename_i v vs' h1 h2
      simp at h; subst h
      exact .cons (hev _ _ h1) (evAll_R hev l vs' h2)
    · simp at h

theorem evParts_R {S : Sig} {ev : Operand → Option SV} {a : Act} (hev : ∀ x sv, ev x = some sv → R S sv (a.eval x)) : ∀ (l : List (Nat × Operand)) (ps : List (Nat × SV)), evParts ev l = some ps → PartsR S ps (l.map fun x => (x.1, a.eval x.2))
  | [], ps, h => by simp [evParts] at h; subst h; rfl
  | (i, o) :: l, ps, h => by
    simp only [evParts] at h
    split at h
    · rename_i v vs' h1 h2
      simp at h; subst h
      exact ⟨_, _, rfl, hev _ _ h1, evParts_R hev l vs' h2⟩
    · simp at h

theorem minAll_sound {S : Sig} {P : Program} {w : World} {lt : Int → Int → Bool} {f : Value → Value → Sem Value} (hf : ∀ k x y, (f (.int k x) (.int k y)).run P w = .ok (.int k (if lt y x then y else x)) w) {k : IntKind} :
    ∀ (l : List SV) (x : Int) (r : SV) (vs : List Value), minAll lt k x l = some r → All2 (R S) l vs → ∃ v, (vs.foldlM f (.int k x)).run P w = .ok v w ∧ R S r v
  | [], x, r, vs, h, hr => by
    cases hr
    simp [minAll] at h; subst h
    exact ⟨_, by simp, R_mk_i⟩
  | t :: l, x, r, vs, h, hr => by
    cases hr with
    | cons h1 h2 =>
      cases t <;> (try (simp [minAll] at h; done))
      rename_i k' y
      simp only [minAll] at h
      split at h
      · rename_i hk
        have := kindEq_eq hk; subst this
        rw [R_i h1]
        obtain ⟨v, e, hv⟩ := minAll_sound hf l _ r _ h h2
        refine ⟨v, ?_, hv⟩
        simp only [List.foldlM_cons, Sem.run_bind, hf, Result.andThen_ok]
        cases hlt : lt y x <;> simp [hlt] at e ⊢ <;> exact e
      · simp at h

theorem builtinK_sound {E : Env} {S : Sig} {M : Mem} {w : World} {b : Builtin} {at_ : Array TypeId} {ty : TypeId} {cs : Array Bool} {args : List SV} {vs : Array Value} {K : SV → Mem → Prop}
    (hk : builtinK E.P b at_ args M K) (h : Rep S M w) (hr : All2 (R S) args vs.toList) :
    ∃ sv v, K sv M ∧ (builtin b at_ ty cs vs).run E.P w = .ok (.value v) w ∧ R S sv v := by
  unfold builtinK at hk
  split at hk
  · split at hk
    · rename_i x t ht
      obtain ⟨v, hvs, hx⟩ : ∃ v, vs.toList = [v] ∧ R S x v := by
        revert hr; generalize vs.toList = l
        intro hr
        cases hr with
        | cons h1 h2 => cases h2; exact ⟨_, rfl, h1⟩
      have hv0 : vs[0]? = some v := by rw [← Array.getElem?_toList, hvs]; rfl
      split at hk
      · rename_i e hu
        split at hk
        · rename_i b' p off len cap
          have hr' : Rf S (.sl b' p off len cap) [v] := hx
          simp only [Rf] at hr'
          obtain ⟨s, o, k', m, a, z1, z2, z3, z4, z5, _⟩ := hr'
          simp at z5; subst z5
          refine ⟨_, _, hk, ?_, R_mk_i⟩
          simp [builtin, Builtin.len_, ht, hv0, run_underlying hu, goInt]
        · rename_i k' xs
          have hr' : Rf S (.roi k' xs) [v] := hx
          simp only [Rf] at hr'
          obtain ⟨a, cap, z1, z2, _⟩ := hr'
          simp at z2; subst z2
          refine ⟨_, _, hk, ?_, R_mk_i⟩
          simp [builtin, Builtin.len_, ht, hv0, run_underlying hu, goInt]
        · rename_i n g
          have hr' : Rf S (.ros n g) [v] := hx
          simp only [Rf] at hr'
          obtain ⟨a, cap, z1, z2, _⟩ := hr'
          simp at z2; subst z2
          refine ⟨_, _, hk, ?_, R_mk_i⟩
          simp [builtin, Builtin.len_, ht, hv0, run_underlying hu, goInt]
        · rename_i n
          have hr' : Rf S (.sln n) [v] := hx
          simp only [Rf] at hr'
          obtain ⟨a, cap, z1, z2⟩ := hr'
          simp at z2; subst z2
          refine ⟨_, _, hk, ?_, R_mk_i⟩
          simp [builtin, Builtin.len_, ht, hv0, run_underlying hu, goInt]
          omega
        · have hr' : Rf S .nils [v] := hx
          simp only [Rf] at hr'
          simp at hr'; subst hr'
          refine ⟨_, _, hk, ?_, R_mk_i⟩
          simp [builtin, Builtin.len_, ht, hv0, run_underlying hu, goInt]
        · exact hk.elim
      · rename_i n e hu
        refine ⟨_, _, hk, ?_, R_mk_i⟩
        simp [builtin, Builtin.len_, ht, hv0, run_underlying hu, goInt]
      · exact hk.elim
    · exact hk.elim
  · split at hk
    · rename_i k x l
      obtain ⟨vs', hvs, hx⟩ : ∃ vs', vs.toList = .int k x :: vs' ∧ All2 (R S) l vs' := by
        revert hr; generalize vs.toList = l'
        intro hr
        cases hr with
        | cons h1 h2 => rw [R_i h1]; exact ⟨_, rfl, h2⟩
      split at hk
      · rename_i r hm
        obtain ⟨v, e, hv⟩ := minAll_sound (S := S) (P := E.P) (w := w) (f := Builtin.min2) (fun k x y => by simp [Builtin.min2]) l x r vs' hm hx
        refine ⟨_, v, hk, ?_, hv⟩
        simp [builtin, Builtin.min_, hvs, e]
      · exact hk.elim
    · exact hk.elim
  · split at hk
    · rename_i k x l
      obtain ⟨vs', hvs, hx⟩ : ∃ vs', vs.toList = .int k x :: vs' ∧ All2 (R S) l vs' := by
        revert hr; generalize vs.toList = l'
        intro hr
        cases hr with
        | cons h1 h2 => rw [R_i h1]; exact ⟨_, rfl, h2⟩
      split at hk
      · rename_i r hm
        obtain ⟨v, e, hv⟩ := minAll_sound (S := S) (P := E.P) (w := w) (f := Builtin.max2) (fun k x y => by simp [Builtin.max2]) l x r vs' hm hx
        refine ⟨_, v, hk, ?_, hv⟩
        simp [builtin, Builtin.max_, hvs, e]
      · exact hk.elim
    · exact hk.elim
  · exact hk.elim

section
variable {E : Env} {S : Sig} {M : Mem} {w : World}

/-- What is shown of what stands behind an operation. -/
def Nxt (S : Sig) (o : Oper) (a : Act) (K : SV → Mem → Prop) (next : Act → World → Prop) : Prop :=
  ∀ S' sv M' v w', Ext S S' → Rep S' M' w' → K sv M' → (o.dst = none ∨ R S' sv v) → next (a.put o.dst v) w'

theorem wp_calls {P : Program} {o : Oper} {a : Act} {next : Act → World → Prop} {Q : Exit → Act → World → Prop} {f : FuncId} {vs : Array Value} {K : SV → Mem → Prop}
    (he : (execOp a.eval o).run P w = .ok (.enter f vs) w)
    (hc : Calls P f vs w fun e w' => ∃ S' sv M' v, Ext S S' ∧ Rep S' M' w' ∧ K sv M' ∧ e = .returned v ∧ R S' sv v) (hn : Nxt S o a K next) : o.wp P a w next Q := by
  unfold Oper.wp
  rw [he, Oper.upon_enter]
  refine hc.mono fun e w' ⟨S', sv, M', v, h1, h2, h3, h4, h5⟩ => ?_
  subst h4
  exact hn S' sv M' v w' h1 h2 h3 (.inr h5)

theorem callK_sound {call : CallT} (hE : EnvOK E) (hcall : CallOK E call) (hG : Glob E S) (h : Rep S M w) {o : Oper} {c : Call} {a : Act} {ev : Operand → Option SV} (hop : o.op = .call c)
    (hev : ∀ x sv, ev x = some sv → R S sv (a.eval x)) {K : SV → Mem → Prop} (hk : callK E call c ev M K) {next : Act → World → Prop} {Q : Exit → Act → World → Prop} (hn : Nxt S o a K next) : o.wp E.P a w next Q := by
  unfold callK at hk
  split at hk
  · exact hk.elim
  · rename_i args hargs
    have hA := evAll_R hev _ _ hargs
    split at hk
    · rename_i f hcal
      split at hk
      · rename_i g hf
        obtain ⟨hg, hk2⟩ := onB_out hk
        have hfv := R_fn (hev _ _ hf)
        refine wp_calls (vs := c.args.map a.eval) ?_ (hcall.2 g args M K hk2 hg S w _ hG h (by simpa using hA)) hn
        simp [execOp, hop, resolve, hcal, hfv, Deferred.ofValue, invoke, run_callFunc hg]
      · exact hk.elim
    · rename_i r name hcal
      split at hk
      · rename_i t v hrc
        split at hk
        · rename_i g d hm
          split at hk
          · rename_i v' hp
            obtain ⟨hg, hk2⟩ := onB_out hk
            have hr' : Rf S (.ifc t v) [a.eval r] := hev _ _ hrc
            simp only [Rf] at hr'
            obtain ⟨x, x1, x2, x3⟩ := hr'
            simp at x3
            obtain ⟨⟨ad, rfl⟩, hv'⟩ := ptrsTo_sound h hp (R_of_R1 (R1_sc x1 x2))
            refine wp_calls (vs := #[.pointer (some ad)] ++ c.args.map a.eval) ?_ (hcall.2 g (v' :: args) M K hk2 hg S w _ hG h ?_) hn
            · have h0 : (#[Value.iface t (.pointer (some ad))] ++ Array.map a.eval c.args)[0]? = some (.iface t (.pointer (some ad))) := by simp [Array.getElem?_append]
              have hx : (#[Value.iface t (.pointer (some ad))] ++ Array.map a.eval c.args).extract 1 (#[Value.iface t (.pointer (some ad))] ++ Array.map a.eval c.args).size = Array.map a.eval c.args := by
                apply Array.toList_inj.1; simp [List.extract_eq_take_drop]; exact List.take_of_length_le (by simp)
              simp only [execOp, hop, resolve, hcal, x3, Sem.run_bind, Sem.run_pure, Result.andThen_ok, invoke, h0, hx, callMethod, run_program, hE.meth _ _ _ _ hm, run_callFunc hg]
            · simpa using All2.cons hv' (by simpa using hA)
          · exact hk.elim
        · exact hk.elim
      · exact hk.elim
    · rename_i b hcal
      obtain ⟨sv, v, k1, k2, k3⟩ := builtinK_sound (ty := o.type) (cs := c.args.map fun | .const _ => true | _ => false) (vs := c.args.map a.eval) hk h (by simpa using hA)
      unfold Oper.wp
      have : (execOp a.eval o).run E.P w = .ok (.value v) w := by
        simp only [execOp, hop, resolve, hcal, Sem.run_bind, Sem.run_pure, Result.andThen_ok, invoke]
        exact k2
      rw [this, Oper.upon_value]
      exact hn S sv M v w (Ext.refl S) h k1 (.inr k3)

theorem Rep.grow {S : Sig} {M : Mem} {w : World} (h : Rep S M w) (o : Obj) : Rep S M { w with heap := w.heap.push o } := by
  refine ⟨h.base, h.sh, by have := h.size; simp; omega, fun k h1 h2 => ?_, h.os, h.tape, h.out, h.inj, h.new, fun i t hi => ?_⟩
  · have := h.size
    show (w.heap.push o)[k]? = _
    rw [Array.getElem?_push, if_neg (by omega)]; exact h.kept k h1 h2
  · obtain ⟨cs, el, k1, k2⟩ := h.blk i t hi
    refine ⟨cs, el, ?_, k2⟩
    have := (Array.getElem?_eq_some_iff.1 k1).1
    show (w.heap.push o)[S.ρ i]? = _
    rw [Array.getElem?_push, if_neg (by omega)]; exact k1

theorem opK_sound {call : CallT} (hE : EnvOK E) (hcall : CallOK E call) (hG : Glob E S) (h : Rep S M w) {o : Oper} {a : Act} {ev : Operand → Option SV}
    (hev : ∀ x sv, ev x = some sv → R S sv (a.eval x)) {K : SV → Mem → Prop} (hk : opK E call o ev M K) {next : Act → World → Prop} {Q : Exit → Act → World → Prop} (hn : Nxt S o a K next) : o.wp E.P a w next Q := by
  unfold opK at hk
  split at hk
  · rename_i x hop
    split at hk
    · rename_i v hx
      exact wp_val (s := pure (a.eval x)) (by simp [execOp, hop]) (by simp) (hn S v M _ w (Ext.refl S) h hk (.inr (hev _ _ hx)))
    · exact hk.elim
  · rename_i x hop
    split at hk
    · rename_i v hx
      exact wp_val (s := pure (a.eval x)) (by simp [execOp, hop]) (by simp) (hn S v M _ w (Ext.refl S) h hk (.inr (hev _ _ hx)))
    · exact hk.elim
  · rename_i T hop
    split at hk
    · rename_i z hz
      obtain ⟨i, v, h1, h2, h3⟩ := hE.zero T z hz
      obtain ⟨S', e1, e2, e3⟩ := h.push T (R1_cells (h3 S))
      refine wp_val (s := Instr.alloc T true (.tuple #[])) (by simp [execOp, hop]) ?_ (hn S' _ _ _ _ e1 e2 hk (.inr e3))
      simp [Instr.alloc, zeroValue, typeInfo, h1, h2, newVar, newRow]
    · exact hk.elim
  · rename_i T x hop
    split at hk
    · rename_i v hx
      obtain ⟨hT, hk2⟩ := onB_out hk
      simp at hT
      obtain ⟨S', e1, e2, e3⟩ := h.push T (R1_cells (R1_of_R (hev _ _ hx) hT))
      refine wp_val (s := Instr.box T (a.eval x)) (by simp [execOp, hop]) ?_ (hn S' _ _ _ _ e1 e2 hk2 (.inr e3))
      simp [Instr.box, newVar, newRow]
    · exact hk.elim
  · rename_i T parts hop
    split at hk
    · rename_i z ps hz hps
      split at hk
      · rename_i v hA hf
        simp at hA
        obtain ⟨i, v0, h1, h2, h3⟩ := hE.zero T z hz
        obtain ⟨v', r1, r2⟩ := run_build_at (w := w) h1 h2 (h3 S) hA.1 hA.2 hf (evParts_R hev _ _ hps)
        refine wp_val (s := Instr.build T (parts.map fun (i, x) => (i, a.eval x))) (by simp [execOp, hop]) ?_ (hn S v M v' w (Ext.refl S) h hk (.inr r2))
        rw [← r1]; congr 2
        apply Array.toList_inj.1; simp
      · exact hk.elim
    · exact hk.elim
  · rename_i T x hop
    split at hk
    · rename_i p hp
      obtain ⟨t, v, ad, k1, k2, k3, k4⟩ := h.loadK (hev _ _ hp) hk
      refine wp_val (s := Instr.loadAt T (a.eval x)) (by simp [execOp, hop]) ?_ (hn S t M v w (Ext.refl S) h k1 (.inr (R_of_R1 k4)))
      simp [Instr.loadAt, k2, Instr.sureAddr, k3]
    · exact hk.elim
  · rename_i T x y hop
    split at hk
    · rename_i p v hd hp hv
      obtain ⟨M', ad, w', k1, k2, k3, k4, k5⟩ := h.storeK (hev _ _ hp) (hev _ _ hv) hk
      have := hn S _ M' undef w' (Ext.refl S) k4 k1 (.inl hd)
      unfold Oper.wp
      have e : (execOp a.eval o).run E.P w = .ok .skip w' := by
        simp [execOp, hop, Instr.storeAt, k2, Instr.sureAddr, k3]
      rw [e, Oper.upon_skip]; exact this
    · exact hk.elim
  · rename_i x hop
    split at hk
    · rename_i b p hx
      obtain ⟨ad, hv⟩ := R_ptr (hev _ _ hx)
      have := hn S _ M (a.eval x) w (Ext.refl S) h hk (.inr (hev _ _ hx))
      refine wp_val (s := pure (a.eval x)) ?_ (by simp) this
      simp [execOp, hop, hv]
    · rename_i t hx
      obtain ⟨ad, _, hv, _⟩ := R_cptr (hev _ _ hx)
      have := hn S _ M (a.eval x) w (Ext.refl S) h hk (.inr (hev _ _ hx))
      refine wp_val (s := pure (a.eval x)) ?_ (by simp) this
      simp [execOp, hop, hv]
    · rename_i f hx
      have hv := R_fn (hev _ _ hx)
      have := hn S _ M (a.eval x) w (Ext.refl S) h hk (.inr (hev _ _ hx))
      refine wp_val (s := pure (a.eval x)) ?_ (by simp) this
      simp [execOp, hop, hv]
    · rename_i t v hx
      have hr' : Rf S (.ifc t v) [a.eval x] := hev _ _ hx
      simp only [Rf] at hr'
      obtain ⟨x', x1, x2, x3⟩ := hr'
      simp at x3
      have := hn S _ M (a.eval x) w (Ext.refl S) h hk (.inr (hev _ _ hx))
      refine wp_val (s := pure (a.eval x)) ?_ (by simp) this
      simp [execOp, hop, x3]
    · exact hk.elim
  · rename_i op T x y yt hop
    split at hk
    · rename_i va vb hx hy
      obtain ⟨sv, v, k1, k2, k3⟩ := binK_sound (w := w) (ox := x) (oy := y) hk (hev _ _ hx) (hev _ _ hy)
      exact wp_val (s := do eqGuard op T x y (a.eval x) (a.eval y); binOp op T (a.eval x) (a.eval y)) (by simp [execOp, hop]) k2 (hn S sv M v w (Ext.refl S) h k1 (.inr k3))
    · exact hk.elim
  · rename_i op T x hop
    split at hk
    · rename_i va hx
      obtain ⟨sv, v, k1, k2, k3⟩ := unK_sound (P := E.P) (w := w) hk (hev _ _ hx)
      exact wp_val (s := Op.unary op (a.eval x)) (by simp [execOp, hop]) k2 (hn S sv M v w (Ext.refl S) h k1 (.inr k3))
    · exact hk.elim
  · rename_i s d x hop
    split at hk
    · rename_i k n hx
      split at hk
      · rename_i k1 k' hs hd
        have hu : ∀ T k, intKindOf E.P T = some k → E.P.underlying T = some (.int k) := by
          intro T k hd
          unfold intKindOf at hd
          split at hd
          · rename_i hu; simp at hd; subst hd; exact hu
          · simp at hd
        have hv := R_i (hev _ _ hx)
        refine wp_val (s := convert s d (a.eval x)) (by simp [execOp, hop]) (v := .int k' (k'.wrap n)) (w' := w) ?_ (hn S _ M _ w (Ext.refl S) h hk (.inr R_mk_i))
        simp [convert, run_underlying (hu _ _ hs), run_underlying (hu _ _ hd), hv, Conv.intToInt]
      · exact hk.elim
    · exact hk.elim
  · rename_i T x hop
    split at hk
    · rename_i v hx
      split at hk
      · exact hk.elim
      · rename_i d hd hu
        obtain ⟨hT, hk2⟩ := onB_out hk
        simp at hT
        have hr1 := R1_sc' (R1_of_R (hev _ _ hx) hT.2) hT.1
        refine wp_val (s := Instr.makeInterface T (a.eval x)) (by simp [execOp, hop]) (v := .iface T (a.eval x)) (w' := w) ?_ (hn S _ M _ w (Ext.refl S) h hk2 (.inr ?_))
        · cases d <;> first | (simp [Instr.makeInterface, run_underlying hu]; done) | exact (hd _ rfl).elim
        · show Rf S _ _
          simp only [Rf]; exact ⟨_, hr1, hT.1, rfl⟩
      · exact hk.elim
    · exact hk.elim
  · rename_i x xT T ok hop
    split at hk
    · rename_i t v hx
      have hx' : Rf S (.ifc t v) [a.eval x] := hev _ _ hx
      simp only [Rf] at hx'
      obtain ⟨y, y1, y2, y3⟩ := hx'
      simp at y3
      split at hk
      · exact hk.elim
      · rename_i d hd hu
        have hne : ∀ ms, d ≠ .interface ms := fun ms e => hd ms e
        split at hk
        · rename_i he
          have e : t = T := Nat.eq_of_beq_eq_true he
          subst e
          refine wp_val (s := Instr.typeAssert (a.eval x) xT t true) (by simp [execOp, hop]) (v := .tuple #[y, .bool true]) (w' := w) ?_ (hn S _ M _ w (Ext.refl S) h hk (.inr ?_))
          · rw [y3]
            cases d <;> first | (simp [Instr.typeAssert, run_underlying hu]; done) | exact (hne _ rfl).elim
          · exact ⟨#[y, .bool true], rfl, y, [.bool true], rfl, by unfold R1; rw [y2]; exact y1, .bool true, [], rfl, by unfold R1; simp [SV.isA, Rf], rfl⟩
        · rename_i he
          split at hk
          · rename_i z hz
            obtain ⟨i, v0, h1, h2, h3⟩ := hE.zero T z hz
            have e : ¬ t = T := fun e => by subst e; rw [show Nat.beq t t = true from Nat.beq_refl t] at he; simp at he
            refine wp_val (s := Instr.typeAssert (a.eval x) xT T true) (by simp [execOp, hop]) (v := .tuple #[v0, .bool false]) (w' := w) ?_ (hn S _ M _ w (Ext.refl S) h hk (.inr ?_))
            · rw [y3]
              cases d <;> first | (simp [Instr.typeAssert, run_underlying hu, e, zeroValue, typeInfo, h1, h2]; done) | exact (hne _ rfl).elim
            · exact ⟨#[v0, .bool false], rfl, v0, [.bool false], rfl, h3 S, .bool false, [], rfl, by unfold R1; simp [SV.isA, Rf], rfl⟩
          · exact hk.elim
      · exact hk.elim
    · exact hk.elim
  · rename_i T l c hop
    split at hk
    · rename_i k n k' m hl hc
      split at hk
      · rename_i e he
        split at hk
        · rename_i i z hi hz
          obtain ⟨hb, hmk, hk2⟩ := onB_out hk
          obtain ⟨rfl, h0, h40⟩ := hmk
          obtain ⟨i', v0, h1, h2, h3⟩ := hE.zero e z hz
          rw [hi] at h1; simp at h1; subst h1
          have hu := sliT_out he
          have el : a.eval l = .int k n := by
            have : Rf S (.i k n) [a.eval l] := hev _ _ hl
            simpa [Rf] using this
          have ec : a.eval c = .int k' n := by
            have : Rf S (.i k' n) [a.eval c] := hev _ _ hc
            simpa [Rf] using this
          have hb' : i.bytes ≤ 8 := Nat.le_of_ble_eq_true hb
          have hbn : (i.bytes : Int) * n ≤ 281474976710656 := by
            have : (i.bytes : Int) * n ≤ 8 * n := Int.mul_le_mul_of_nonneg_right (by omega) h0
            omega
          have hr := run_make (P := E.P) w T e i v0 hu hi h2 k k' n n h0 (Int.le_refl _) hbn (by omega)
          refine wp_val (s := Instr.makeSlice T (a.eval l) (a.eval c)) (by simp [execOp, hop]) (by rw [el, ec]; exact hr) (hn S _ M _ _ (Ext.refl S) ?_ hk2 (.inr ?_))
          · exact h.grow _
          · show Rf S _ _
            simp only [Rf]; exact ⟨_, _, h0, rfl⟩
        · exact hk.elim
      · exact hk.elim
    · exact hk.elim
  · rename_i T x f hop
    split at hk
    · rename_i p hp
      obtain ⟨sv, v, k1, k2, k3⟩ := fieldAddrK_sound h hk (hev _ _ hp)
      exact wp_val (s := Instr.fieldAt T (a.eval x) f) (by simp [execOp, hop]) k2 (hn S sv M v w (Ext.refl S) h k1 (.inr k3))
    · exact hk.elim
  · rename_i T x f hop
    split at hk
    · rename_i p hp
      obtain ⟨sv, v, k1, k2, k3⟩ := fieldV_sound (w := w) hk (hev _ _ hp)
      exact wp_val (s := Instr.field T (a.eval x) f) (by simp [execOp, hop]) k2 (hn S sv M v w (Ext.refl S) h k1 (.inr k3))
    · exact hk.elim
  · rename_i T x ix hop
    split at hk
    · rename_i p n hp hi
      obtain ⟨sv, v, k1, k2, k3⟩ := indexAddrK_sound h hk (hev _ _ hp) (hev _ _ hi)
      exact wp_val (s := Instr.indexAt T (a.eval x) (a.eval ix)) (by simp [execOp, hop]) k2 (hn S sv M v w (Ext.refl S) h k1 (.inr k3))
    · exact hk.elim
  · rename_i T x ix hop
    split at hk
    · rename_i t n hp hi
      unfold indexK at hk
      split at hk
      · rename_i k n
        obtain ⟨m, e, q, u, o', hu, i0, i1, hc, ho, hk1, hs, hz, hcl, hR⟩ := elemK_out hk
        have hat : arrT E.P T = some (m, e) := by simp [arrT, hu]
        simp only [hat] at hk1
        obtain ⟨hl, hk2⟩ := onB_out hk1
        have hiv := R_i (hev _ _ hi)
        have htA : t.isA = true := by
          cases t <;> first | rfl | (simp only [elemK, hat] at hk)
        have hr := R1_of_R (hev _ _ hp) (by cases t <;> first | rfl | (simp [SV.isA] at htA))
        unfold R1 at hr
        simp only [htA] at hr
        obtain ⟨cs, hcs, hr⟩ := hr
        have hpart := hR S _ hr
        obtain ⟨v, e1, e2⟩ := run_part_at (P := E.P) (w := w) hpart hl
        refine wp_val (s := Instr.index T (a.eval x) (a.eval ix)) (by simp [execOp, hop]) (v := v) (w' := w) ?_ (hn S u M v w (Ext.refl S) h hk2 (.inr (R_of_R1 e2)))
        rw [hcs, hiv]
        simp [Instr.index, asIntOf, run_underlying hu, i0, i1, run_sizeOf' hc, ← ho, e1]
      · exact hk.elim
    · exact hk.elim
  · rename_i x n hop
    split at hk
    · rename_i vs hx
      split at hk
      · rename_i v hg
        obtain ⟨hT, hk2⟩ := onB_out hk
        obtain ⟨l, e1, e2⟩ := hev _ _ hx
        have : ∀ (vs : SVs) (n : Nat) (l : List Value), vs.get n = some v → Rt S vs l → ∃ x, l[n]? = some x ∧ R1 S v x := by
          intro vs
          induction vs using SVs.rec (motive_1 := fun _ => True) with
          | nil => intro n l h; simp [SVs.get] at h
          | cons u r _ ih =>
            intro n l h hr
            obtain ⟨x, l', rfl, h1, h2⟩ := hr
            cases n with
            | zero => simp [SVs.get] at h; subst h; exact ⟨x, rfl, h1⟩
            | succ n => simp only [SVs.get] at h; simpa using ih n l' h h2
          | _ => trivial
        obtain ⟨x', f1, f2⟩ := this vs n l.toList hg e2
        refine wp_val (s := Instr.extract (a.eval x) n) (by simp [execOp, hop]) (v := x') (w' := w) ?_ (hn S v M x' w (Ext.refl S) h hk2 (.inr (R_of_R1 f2)))
        have : l[n]? = some x' := by rw [← Array.getElem?_toList]; exact f1
        simp [Instr.extract, e1, this]
      · exact hk.elim
    · exact hk.elim
  · rename_i c hop
    exact callK_sound hE hcall hG h hop hev hk hn
  · exact hk.elim
end

end Go.Sx

namespace Go.Sx
open Go.RowKit (Below)
set_option linter.unusedVariables false
set_option linter.unusedSimpArgs false

def tv (a : Act) (t : Tmp) : Value := a.tmps.getD t undef

theorem undef_nb (x : Bool) : undef ≠ .bool x := by intro h; simp [undef] at h

theorem tv_some {a : Act} {t : Tmp} {x : Bool} (h : tv a t = .bool x) : a.tmps[t]? = some (.bool x) := by
  unfold tv at h
  rw [Array.getD_eq_getD_getElem?] at h
  cases e : a.tmps[t]? with
  | none => simp [e] at h; exact (undef_nb _ h).elim
  | some v => simp [e] at h; rw [h]
theorem tv_of_some {a : Act} {t : Tmp} {v : Value} (h : a.tmps[t]? = some v) : tv a t = v := by
  unfold tv; rw [Array.getD_eq_getD_getElem?, h]; rfl

def FrE (S : Sig) (env : List (Tmp × SV)) (a : Act) : Prop := ∀ t x, lookE env t = some x → R S x (tv a t)

structure FrL (S : Sig) (env : List (Tmp × SV)) (loc : List (Tmp × Sl)) (a : Act) : Prop where
  v : ∀ t x, lookL loc t = some (.v x) → R S x (tv a t)
  o1 : ∀ t s w x, lookL loc t = some (.opt s w x) → a.tmps[s]? = some (.bool w) → R S x (tv a t)
  o2 : ∀ t s w x, lookL loc t = some (.opt s w x) → a.tmps[s]? ≠ some (.bool w) → tv a t = undef
  o3 : ∀ t s w x, lookL loc t = some (.opt s w x) → lookL loc s ≠ none
  e : ∀ t, lookL loc t = none → ∀ x, lookE env t = some x → R S x (tv a t)

def ChH (ch : List (Tmp × Bool)) (a : Act) : Prop := ∀ s w, (s, w) ∈ ch → a.tmps[s]? = some (.bool w)

theorem inCh_mem : ∀ {ch : List (Tmp × Bool)} {s : Tmp} {w : Bool}, inCh ch s w = true → (s, w) ∈ ch
  | [], _, _, h => by simp [inCh] at h
  | (s', w') :: l, s, w, h => by
    simp [inCh] at h
    rcases h with h | h
    · obtain ⟨rfl, rfl⟩ := h; simp
    · exact List.mem_cons_of_mem _ (inCh_mem h)

section
variable {E : Env} {S : Sig} {env : List (Tmp × SV)} {loc : List (Tmp × Sl)} {a : Act}

theorem evT_sound (hF : FrL S env loc a) {ch : List (Tmp × Bool)} (hc : ChH ch a) {t : Tmp} {x : SV} (h : evT env loc ch t = some x) : R S x (tv a t) := by
  unfold evT at h
  split at h
  · rename_i s hl
    unfold slotV at h
    split at h
    · simp at h; subst h; exact hF.v t _ hl
    · split at h
      · rename_i hi
        simp at h; subst h
        exact hF.o1 t _ _ _ hl (hc _ _ (inCh_mem hi))
      · simp at h
  · rename_i hl
    exact hF.e t hl x h

theorem ofConst_R {v : Value} {x : SV} (h : ofConst v = some x) : R S x v := by
  unfold ofConst at h
  split at h <;> simp at h <;> subst h <;> show Rf S _ _ <;> simp [Rf]

theorem evO_sound (hG : Glob E S) (hF : FrL S env loc a) {ch : List (Tmp × Bool)} (hc : ChH ch a) {o : Operand} {x : SV} (h : evO E.glob env loc ch o = some x) : R S x (a.eval o) := by
  unfold evO at h
  split at h
  · exact evT_sound hF hc h
  · exact ofConst_R h
  · rename_i g
    split at h
    · rename_i t ht
      simp at h; subst h
      obtain ⟨ds, h0, h1, h2⟩ := hG g t ht
      exact R_cptr_mk h0 h1 h2
    · simp at h
  · simp at h; subst h
    show Rf S _ _; simp [Rf, Act.eval]

/-- If a guard holds, those ahead of it do. -/
theorem chain_holds (hF : FrL S env loc a) : ∀ (n : Nat) (s : Tmp) (w : Bool), a.tmps[s]? = some (.bool w) → ChH (chain loc n s) a
  | 0, s, w, h => by intro _ _ hm; simp [chain] at hm
  | n + 1, s, w, h => by
    intro s2 w2 hm
    simp only [chain] at hm
    split at hm
    · rename_i s' w' x hl
      have h' : a.tmps[s']? = some (.bool w') := by
        refine Classical.byContradiction fun hne => ?_
        have := hF.o2 s s' w' x hl hne
        rw [tv_of_some h] at this
        exact undef_nb _ this.symm
      rcases List.mem_cons.1 hm with e | hm
      · simp at e; obtain ⟨rfl, rfl⟩ := e; exact h'
      · exact chain_holds hF n s' w' h' _ _ hm
    · simp at hm

theorem ChH.cons {s : Tmp} {w : Bool} {ch : List (Tmp × Bool)} (h : a.tmps[s]? = some (.bool w)) (hc : ChH ch a) : ChH ((s, w) :: ch) a := by
  intro s' w' hm
  rcases List.mem_cons.1 hm with e | hm
  · simp at e; obtain ⟨rfl, rfl⟩ := e; exact h
  · exact hc _ _ hm

/-- The guards' value is true just if they hold. -/
theorem guardB_holds (hF : FrL S env loc a) : ∀ (ch : List (Tmp × Bool)), guardB env loc ch = some true → ChH ch a
  | [], _ => by intro _ _ hm; simp at hm
  | (s, w) :: l, h => by
    simp only [guardB] at h
    split at h
    · rename_i x r hx hr
      simp at h
      have hr' : r = true := by cases w <;> simp at h <;> exact h.2
      subst hr'
      have hl := guardB_holds hF l hr
      have hv := R_b (evT_sound hF hl hx)
      have : x = w := by cases w <;> simp at h <;> exact h
      subst this
      exact ChH.cons (tv_some hv) hl
    · simp at h
theorem guardB_true (hF : FrL S env loc a) : ∀ (ch : List (Tmp × Bool)) (g : Bool), guardB env loc ch = some g → ChH ch a → g = true
  | [], g, h, _ => by simp [guardB] at h; exact h
  | (s, w) :: l, g, h, hc => by
    simp only [guardB] at h
    split at h
    · rename_i x r hx hr
      simp at h
      have hl : ChH l a := fun s' w' hm => hc s' w' (List.mem_cons_of_mem _ hm)
      have hr' := guardB_true hF l r hr hl
      have hv := R_b (evT_sound hF hl hx)
      have := hc s w (by simp)
      rw [tv_some hv] at this
      simp at this
      subst this hr'
      rw [← h]; cases x <;> rfl
    · simp at h

theorem fresh_none : ∀ {loc : List (Tmp × Sl)} {t : Tmp}, fresh loc t = true → lookL loc t = none
  | [], t, h => rfl
  | (s, x) :: l, t, h => by
    simp [fresh] at h
    simp only [lookL]
    have : Nat.beq s t = false := by simpa using h.1
    rw [this]; exact fresh_none h.2

theorem lookL_cons_ne {l : List (Tmp × Sl)} {t d : Tmp} {x : Sl} (h : d ≠ t) : lookL ((d, x) :: l) t = lookL l t := by
  have : Nat.beq d t = false := by
    cases e : Nat.beq d t with
    | false => rfl
    | true => exact (h (Nat.eq_of_beq_eq_true e)).elim
  simp [lookL, this]
theorem lookL_cons_eq {l : List (Tmp × Sl)} {d : Tmp} {x : Sl} : lookL ((d, x) :: l) d = some x := by
  have : Nat.beq d d = true := Nat.beq_refl d
  simp [lookL, this]

theorem put_ne {d t : Tmp} {v : Value} (h : d ≠ t) : (a.put (some d) v).tmps[t]? = a.tmps[t]? := by
  simp [Act.put, Array.getElem?_setIfInBounds, h]
theorem put_eq {d : Tmp} {v : Value} (h : d < a.tmps.size) : (a.put (some d) v).tmps[d]? = some v := by
  simp [Act.put, Array.getElem?_setIfInBounds, h]
theorem tv_put_ne {d t : Tmp} {v : Value} (h : d ≠ t) : tv (a.put (some d) v) t = tv a t := by
  unfold tv; rw [Array.getD_eq_getD_getElem?, Array.getD_eq_getD_getElem?, put_ne h]
theorem tv_put_eq {d : Tmp} {v : Value} (h : d < a.tmps.size) : tv (a.put (some d) v) d = v := tv_of_some (put_eq h)

theorem FrL.ext {S' : Sig} (hF : FrL S env loc a) (hE : Ext S S') : FrL S' env loc a :=
  ⟨fun t x h => R_ext hE (hF.v t x h), fun t s w x h h' => R_ext hE (hF.o1 t s w x h h'), hF.o2, hF.o3, fun t h x h' => R_ext hE (hF.e t h x h')⟩

theorem FrL.put (hF : FrL S env loc a) {d : Tmp} {v : Value} {sl : Sl} (hf : fresh loc d = true) (hd : d < a.tmps.size)
    (hv : ∀ x, sl = .v x → R S x v) (ho : ∀ s w x, sl = .opt s w x → lookL loc s ≠ none ∧ (a.tmps[s]? = some (.bool w) → R S x v) ∧ (a.tmps[s]? ≠ some (.bool w) → v = undef)) :
    FrL S env ((d, sl) :: loc) (a.put (some d) v) := by
  have hfn := fresh_none hf
  have hs : ∀ s, lookL loc s ≠ none → d ≠ s := fun s h e => h (e ▸ hfn)
  refine ⟨?_, ?_, ?_, ?_, ?_⟩
  · intro t x h
    by_cases e : d = t
    · subst e; rw [lookL_cons_eq] at h; simp at h; rw [tv_put_eq hd]; exact hv x h
    · rw [lookL_cons_ne e] at h; rw [tv_put_ne e]; exact hF.v t x h
  · intro t s w x h h'
    by_cases e : d = t
    · subst e; rw [lookL_cons_eq] at h; simp at h
      obtain ⟨k1, k2, _⟩ := ho s w x h
      rw [put_ne (hs s k1)] at h'
      rw [tv_put_eq hd]; exact k2 h'
    · rw [lookL_cons_ne e] at h
      rw [put_ne (hs s (hF.o3 t s w x h))] at h'
      rw [tv_put_ne e]; exact hF.o1 t s w x h h'
  · intro t s w x h h'
    by_cases e : d = t
    · subst e; rw [lookL_cons_eq] at h; simp at h
      obtain ⟨k1, _, k3⟩ := ho s w x h
      rw [put_ne (hs s k1)] at h'
      rw [tv_put_eq hd]; exact k3 h'
    · rw [lookL_cons_ne e] at h
      rw [put_ne (hs s (hF.o3 t s w x h))] at h'
      rw [tv_put_ne e]; exact hF.o2 t s w x h h'
  · intro t s w x h
    have : lookL loc s ≠ none := by
      by_cases e : d = t
      · subst e; rw [lookL_cons_eq] at h; simp at h; exact (ho s w x h).1
      · rw [lookL_cons_ne e] at h; exact hF.o3 t s w x h
    rw [lookL_cons_ne (hs s this)]; exact this
  · intro t h x h'
    by_cases e : d = t
    · subst e; rw [lookL_cons_eq] at h; simp at h
    · rw [lookL_cons_ne e] at h; rw [tv_put_ne e]; exact hF.e t h x h'

theorem putL_out {nt : Nat} {d : Option Tmp} {s : Sl} {K : List (Tmp × Sl) → Prop} (h : putL nt loc d s K) :
    (d = none ∧ K loc) ∨ ∃ t, d = some t ∧ fresh loc t = true ∧ t < nt ∧ K ((t, s) :: loc) := by
  unfold putL at h
  split at h
  · exact .inl ⟨rfl, h⟩
  · obtain ⟨h1, h2⟩ := onB_out h
    simp at h1
    exact .inr ⟨_, rfl, h1.1, by simpa using h1.2, h2⟩
end

/-! ### One operation -/
theorem pickK_sound {S : Sig} {c : Bool} {x y : SV} {vx vy : Value} {K : SV → Prop} (h : pickK c x y K) (hx : c = true → R S x vx) (hy : c = false → R S y vy) :
    ∃ sv, K sv ∧ R S sv (if c then vx else vy) := by
  unfold pickK at h
  split at h
  · refine ⟨_, h, ?_⟩
    cases c
    · exact hy rfl
    · exact hx rfl
  · obtain ⟨h1, h2⟩ := onB_out h
    have := kindEq_eq h1; subst this
    refine ⟨_, h2, ?_⟩
    cases c
    · exact hy rfl
    · exact hx rfl
  · split at h
    · exact ⟨_, h, hx rfl⟩
    · exact ⟨_, h, hy rfl⟩

theorem stepK_sound {E : Env} {S : Sig} {M : Mem} {w : World} {call : CallT} (hE : EnvOK E) (hcall : CallOK E call) (hG : Glob E S) (h : Rep S M w) {o : Oper} {a : Act}
    {env : List (Tmp × SV)} {loc : List (Tmp × Sl)} {ch : List (Tmp × Bool)} (hF : FrL S env loc a) (hc : ChH ch a)
    {K : SV → Mem → Prop} (hk : stepK E call o env loc ch M K) {next : Act → World → Prop} {Q : Exit → Act → World → Prop} (hn : Nxt S o a K next) : o.wp E.P a w next Q := by
  unfold stepK at hk
  split at hk
  · rename_i s x y hop
    split at hk
    · rename_i c va vb hs hx hy
      have hcv := R_b (evT_sound hF hc hs)
      have hX : c = true → R S va (a.eval x) := fun e => evO_sound hG hF (ChH.cons (by rw [tv_some hcv, e]) hc) hx
      have hY : c = false → R S vb (a.eval y) := fun e => evO_sound hG hF (ChH.cons (by rw [tv_some hcv, e]) hc) hy
      have key : ∀ sv, K sv M → R S sv (if c then a.eval x else a.eval y) → o.wp E.P a w next Q := by
        intro sv k1 k2
        refine wp_val (s := pure (if c then a.eval x else a.eval y)) ?_ (by simp) (hn S sv M _ w (Ext.refl S) h k1 (.inr k2))
        have : a.eval (.tmp s) = .bool c := hcv
        simp [execOp, hop, this, asBool]
      have gen : pickK c va vb (fun v => K v M) → o.wp E.P a w next Q := by
        intro hk
        obtain ⟨sv, k1, k2⟩ := pickK_sound hk hX hY
        exact key sv k1 k2
      split at hk
      · split at hk
        · rename_i q _
          refine key _ hk ?_
          cases c
          · exact hY rfl
          · show Rf S _ _; simp [Rf, Act.eval]
        · exact gen hk
      · split at hk
        · rename_i p _
          refine key _ hk ?_
          cases c
          · show Rf S _ _; simp [Rf, Act.eval]
          · exact hX rfl
        · exact gen hk
      · exact gen hk
    · exact hk.elim
  · exact opK_sound hE hcall hG h (fun x sv hx => evO_sound hG hF hc hx) hk hn

end Go.Sx

namespace Go.Sx
open Go.RowKit (Below)
set_option linter.unusedVariables false
set_option linter.unusedSimpArgs false

theorem wanted_some {o : Oper} {ops : Array Oper} {a : Act} {j : Nat} {w : Bool} {s : Tmp} (hg : o.guard = some (j, w)) (hd : (ops[j]?).bind (·.dst) = some s) :
    Region.wanted o (yielded ops a.tmps) = true ↔ a.tmps[s]? = some (.bool w) := by
  simp only [Region.wanted, hg, yielded, hd, Option.bind_some]
  cases e : a.tmps[s]? with
  | none => simp
  | some v =>
    cases v <;> simp

theorem pickK_ex {c : Bool} {x y : SV} {K : SV → Prop} (h : pickK c x y K) : ∃ v, K v := by
  unfold pickK at h
  split at h
  · exact ⟨_, h⟩
  · exact ⟨_, (onB_out h).2⟩
  · split at h <;> exact ⟨_, h⟩
theorem binK_ex {P : Program} {op : BinOp} {T : TypeId} {a b : SV} {K : SV → Prop} (h : binK P op T a b K) : ∃ v, K v := by
  cases op <;> simp only [binK] at h
  all_goals (
    split at h
    all_goals first
      | exact h.elim
      | exact ⟨_, (onB_out (onB_out h).2).2⟩
      | exact ⟨_, (onB_out h).2⟩
      | (split at h
         all_goals first
           | exact h.elim
           | exact ⟨_, h⟩))
theorem unK_ex {op : UnOp} {a : SV} {K : SV → Prop} (h : unK op a K) : ∃ v, K v := by
  cases op <;> simp only [unK] at h
  all_goals (
    split at h
    all_goals first
      | exact h.elim
      | exact ⟨_, h⟩)
theorem loadK_ex {P : Program} {T : TypeId} {p : SV} {M : Mem} {K : SV → Prop} (h : loadK P T p M K) : ∃ v, K v := by
  unfold loadK at h
  split at h
  · split at h
    · split at h
      · exact ⟨_, (onB_out h).2⟩
      · exact h.elim
    · exact h.elim
  · exact ⟨_, (onB_out h).2⟩
  · exact h.elim
theorem fieldK_ex {P : Program} {T : TypeId} {f : Nat} {t : SV} {K : SV → Prop} (h : fieldK P T f t K) : ∃ v, K v := by
  obtain ⟨fs, o, ft, a, _, _, _, _, _, hk⟩ := fieldK_out h
  exact ⟨_, hk⟩
theorem fieldAddrK_ex {P : Program} {T : TypeId} {f : Nat} {p : SV} {M : Mem} {K : SV → Prop} (h : fieldAddrK P T f p M K) : ∃ v, K v := by
  unfold fieldAddrK at h
  split at h
  · split at h
    · split at h
      · exact ⟨_, (fieldK_ex h).choose_spec⟩
      · exact h.elim
    · exact h.elim
  · exact ⟨_, (fieldK_ex h).choose_spec⟩
  · exact h.elim

theorem quiet_ex {E : Env} {call : CallT} {o : Oper} {env : List (Tmp × SV)} {loc : List (Tmp × Sl)} {ch : List (Tmp × Bool)} {M : Mem} {K : SV → Mem → Prop}
    (hq : quiet o.op = true) (h : stepK E call o env loc ch M K) : ∃ v, K v M := by
  unfold stepK at h
  split at h
  · split at h
    · split at h
      · split at h
        · exact ⟨_, h⟩
        · exact pickK_ex h
      · split at h
        · exact ⟨_, h⟩
        · exact pickK_ex h
      · exact pickK_ex h
    · exact h.elim
  · unfold opK at h
    split at h
    · split at h
      · exact ⟨_, h⟩
      · exact h.elim
    · rename_i hop; simp [hop, quiet] at hq
    · rename_i hop; simp [hop, quiet] at hq
    · rename_i hop; simp [hop, quiet] at hq
    · rename_i hop; simp [hop, quiet] at hq
    · split at h
      · exact loadK_ex h
      · exact h.elim
    · rename_i hop; simp [hop, quiet] at hq
    · split at h
      · exact ⟨_, h⟩
      · exact ⟨_, h⟩
      · exact ⟨_, h⟩
      · exact ⟨_, h⟩
      · exact h.elim
    · split at h
      · exact binK_ex h
      · exact h.elim
    · split at h
      · exact unK_ex h
      · exact h.elim
    · split at h
      · split at h
        · exact ⟨_, h⟩
        · exact h.elim
      · exact h.elim
    · rename_i hop; simp [hop, quiet] at hq
    · rename_i hop; simp [hop, quiet] at hq
    · rename_i hop; simp [hop, quiet] at hq
    · split at h
      · exact fieldAddrK_ex h
      · exact h.elim
    · split at h
      · obtain ⟨v, hv⟩ := fieldK_ex h
        split at hv
        · exact ⟨_, (onB_out hv).2⟩
        · exact hv.elim
      · exact h.elim
    · rename_i hop; simp [hop, quiet] at hq
    · rename_i hop; simp [hop, quiet] at hq
    · split at h
      · split at h
        · exact ⟨_, (onB_out h).2⟩
        · exact h.elim
      · exact h.elim
    · rename_i hop; simp [hop, quiet] at hq
    · exact h.elim

theorem quietAt_quiet {op : Op} {ev : Operand → Option SV} (h : quietAt op ev = true) : quiet op = true := by
  unfold quietAt at h
  split at h
  · rfl
  · rfl
  · rfl
  · exact h

theorem put_size {a : Act} {d : Option Tmp} {v : Value} : (a.put d v).tmps.size = a.tmps.size := by cases d <;> simp [Act.put]
theorem put_defers {a : Act} {d : Option Tmp} {v : Value} : (a.put d v).defers = a.defers := by cases d <;> simp [Act.put]

section
variable {E : Env} {call : CallT} {nt : Nat} {ops : Array Oper} {Q : Exit → Act → World → Prop}

theorem regK_sound (hE : EnvOK E) (hcall : CallOK E call) : ∀ (rest : List Oper) (S : Sig) (loc : List (Tmp × Sl)) (env : List (Tmp × SV)) (M : Mem) (K : List (Tmp × Sl) → Mem → Prop) (a : Act) (w : World),
    regK E call nt ops rest loc env M K → Glob E S → Rep S M w → FrL S env loc a → a.tmps.size = nt → a.defers = [] →
    (∀ S' loc' M' a' w', Ext S S' → Rep S' M' w' → FrL S' env loc' a' → a'.tmps.size = nt → a'.defers = [] → K loc' M' → Q .normal a' w') → wpList E.P ops Q rest a w
  | [], S, loc, env, M, K, a, w, hk, hG, h, hF, hz, hd, hQ => hQ S loc M a w (Ext.refl S) h hF hz hd hk
  | o :: rest, S, loc, env, M, K, a, w, hk, hG, h, hF, hz, hd, hQ => by
    have step : ∀ (S' : Sig) (sv : SV) (sl : Sl) (M' : Mem) (v : Value) (w' : World), Ext S S' → Rep S' M' w' → putL nt loc o.dst sl (fun loc' => regK E call nt ops rest loc' env M' K) →
        (∀ t, o.dst = some t → (∀ x, sl = .v x → R S' x v) ∧ ∀ s w x, sl = .opt s w x → lookL loc s ≠ none ∧ (a.tmps[s]? = some (.bool w) → R S' x v) ∧ (a.tmps[s]? ≠ some (.bool w) → v = undef)) →
        wpList E.P ops Q rest (a.put o.dst v) w' := by
      intro S' sv sl M' v w' hE' h' hp hr
      rcases putL_out hp with ⟨e, hk'⟩ | ⟨t, e, hf, ht, hk'⟩
      · rw [e]
        refine regK_sound hE hcall rest S' loc env M' K _ w' hk' (hG.ext hE') h' ?_ (by simpa [Act.put] using hz) (by simpa [Act.put] using hd) (fun S2 l2 M2 a2 w2 k1 => hQ S2 l2 M2 a2 w2 (hE'.trans k1))
        simpa [Act.put] using hF.ext hE'
      · obtain ⟨r1, r2⟩ := hr t e
        rw [e]
        exact regK_sound hE hcall rest S' _ env M' K _ w' hk' (hG.ext hE') h' ((hF.ext hE').put hf (by rw [hz]; exact ht) r1 r2) (by rw [put_size]; exact hz) (by rw [put_defers]; exact hd) (fun S2 l2 M2 a2 w2 k1 => hQ S2 l2 M2 a2 w2 (hE'.trans k1))
    simp only [regK] at hk
    unfold wpList
    split at hk
    · rename_i hg
      rw [if_pos (by simp [Region.wanted, hg])]
      refine .inl (stepK_sound hE hcall hG h hF (ch := []) (by intro _ _ hm; simp at hm) hk ?_)
      intro S' sv M' v w' e1 e2 hp hr
      refine step S' sv _ M' v w' e1 e2 hp (fun t ht => ⟨fun x e => ?_, fun s w x e => by simp at e⟩)
      simp at e; subst e
      rcases hr with hr | hr
      · simp [ht] at hr
      · exact hr
    · rename_i j wnt hg
      split at hk
      · exact hk.elim
      · rename_i s hs
        split at hk
        · exact hk.elim
        · rename_i hfr
          have hls : lookL loc s ≠ none := by
            intro e
            have : ∀ (l : List (Tmp × Sl)), lookL l s = none → fresh l s = true := by
              intro l
              induction l with
              | nil => intro _; rfl
              | cons x l ih =>
                intro he
                obtain ⟨s', y⟩ := x
                by_cases hq : s' = s
                · subst hq; rw [lookL_cons_eq] at he; simp at he
                · rw [lookL_cons_ne hq] at he
                  have : Nat.beq s' s = false := by
                    cases e : Nat.beq s' s with
                    | false => rfl
                    | true => exact (hq (Nat.eq_of_beq_eq_true e)).elim
                  simp only [fresh, this, ih he]; rfl
            rw [this loc e] at hfr; simp at hfr
          by_cases hw : Region.wanted o (yielded ops a.tmps) = true
          · rw [if_pos hw]
            have hb := (wanted_some hg hs).1 hw
            have hc : ChH ((s, wnt) :: chain loc 8 s) a := ChH.cons hb (chain_holds hF 8 s wnt hb)
            have nx : ∀ K', (∀ sv M', K' sv M' → putL nt loc o.dst (.opt s wnt sv) (fun loc' => regK E call nt ops rest loc' env M' K)) → Nxt S o a K' (wpList E.P ops Q rest) := by
              intro K' hK' S' sv M' v w' e1 e2 hp hr
              refine step S' sv _ M' v w' e1 e2 (hK' _ _ hp) (fun t ht => ⟨fun x e => by simp at e, fun s2 w2 x e => ?_⟩)
              simp at e; obtain ⟨rfl, rfl, rfl⟩ := e
              refine ⟨hls, fun _ => ?_, fun hne => (hne hb).elim⟩
              rcases hr with hr | hr
              · simp [ht] at hr
              · exact hr
            split at hk
            · exact .inl (stepK_sound hE hcall hG h hF hc hk (nx _ fun _ _ h => h))
            · split at hk
              · exact hk.elim
              · exact .inl (stepK_sound hE hcall hG h hF hc hk (nx _ fun _ _ h => h))
              · rename_i hgb
                have := guardB_true hF _ _ hgb hc
                simp at this
          · rw [if_neg hw]
            have hb : a.tmps[s]? ≠ some (.bool wnt) := fun e => hw ((wanted_some hg hs).2 e)
            have go : ∀ sv, putL nt loc o.dst (.opt s wnt sv) (fun loc' => regK E call nt ops rest loc' env M K) → wpList E.P ops Q rest (a.put o.dst undef) w := by
              intro sv hp
              refine step S sv _ M undef w (Ext.refl S) h hp (fun t ht => ⟨fun x e => by simp at e, fun s2 w2 x e => ?_⟩)
              simp at e; obtain ⟨rfl, rfl, rfl⟩ := e
              exact ⟨hls, fun e => (hb e).elim, fun _ => rfl⟩
            split at hk
            · rename_i hq
              obtain ⟨v, hv⟩ := quiet_ex (quietAt_quiet hq) hk
              exact go v hv
            · split at hk
              · exact hk.elim
              · rename_i hgb
                exact (hb (guardB_holds hF _ hgb s wnt (by simp))).elim
              · exact go _ hk
end

end Go.Sx

namespace Go.Sx
open Go.RowKit (Below)
set_option linter.unusedVariables false
set_option linter.unusedSimpArgs false

theorem All2.get {r : SV → Value → Prop} : ∀ {l : List SV} {m : List Value}, All2 r l m → ∀ (i : Nat) v, l[i]? = some v → ∃ x, m[i]? = some x ∧ r v x
  | _, _, .nil, i, v, h => by simp at h
  | _, _, .cons h1 h2, 0, v, h => by simp at h; subst h; exact ⟨_, rfl, h1⟩
  | _, _, .cons h1 h2, i + 1, v, h => by obtain ⟨x, e, hx⟩ := h2.get i v (by simpa using h); exact ⟨x, by simpa using e, hx⟩
theorem All2.len {r : SV → Value → Prop} : ∀ {l : List SV} {m : List Value}, All2 r l m → l.length = m.length
  | _, _, .nil => rfl
  | _, _, .cons _ h2 => by simp [h2.len]
theorem All2.imp {r s : SV → Value → Prop} : ∀ {l : List SV} {m : List Value}, All2 r l m → (∀ a ∈ l, ∀ b, r a b → s a b) → All2 s l m
  | _, _, .nil, _ => .nil
  | _, _, .cons h1 h2, h => .cons (h _ (by simp) _ h1) (h2.imp fun a ha => h a (by simp [ha]))

def CallsTo (E : Env) (f : FuncId) (vs : Array Value) (S : Sig) (w : World) (K : SV → Mem → Prop) : Prop :=
  Calls E.P f vs w fun e w' => ∃ S' sv M' v, Ext S S' ∧ Rep S' M' w' ∧ K sv M' ∧ e = .returned v ∧ R S' sv v

/-- A world that knows what w knew, but for block g. -/
structure Kept (w w' : World) (g : Option Nat) : Prop where
  os : w'.os = w.os
  tape : w'.tape = w.tape
  out : w'.output = w.output
  size : w.heap.size ≤ w'.heap.size
  blk : ∀ k, k < w.heap.size → g ≠ some k → w'.heap[k]? = w.heap[k]?

def ConOK (E : Env) (f : FuncId) : Con → Prop
  | .pure pre f' => ∀ (args : List SV) (r : SV), f' args = some r → pre args → clAll 0 args = true → ∀ (S : Sig) (w : World) (vs : Array Value), Base S → S.F = w → S.g = none → S.sh = [] → Glob E S → All2 (R S) args vs.toList →
      Calls E.P f vs w fun e w' => ∃ v, e = .returned v ∧ r.cl 0 = true ∧ R S r v ∧ Kept w w' none
  | .mth pt => (∀ t args, Det2 (pt t args)) ∧ ∀ (t : SV) (args : List SV) (K : SV → SV → Prop), pt t args K → t.cl 0 = true → clAll 0 args = true → ∀ (S : Sig) (w : World) (b : Nat) (cs : Array Value) (el : TypeId) (vs : List Value), Base S → S.F = w → S.g = some b → S.sh = [t.shp] → S.ρ 0 = b →
      w.heap[b]? = some (.cells cs el (0, 0)) → Rf S t cs.toList → Glob E S → All2 (R S) args vs →
      Calls E.P f (.pointer (some ⟨b, 0, none⟩) :: vs).toArray w fun e w' => ∃ r t' v cs', K r t' ∧ e = .returned v ∧ r.cl 0 = true ∧ R S r v ∧ t'.cl 0 = true ∧ t'.shp = t.shp ∧
        (∃ el', w'.heap[b]? = some (.cells cs' el' (0, 0))) ∧ Rf S t' cs'.toList ∧ Kept w w' (some b)

def GamOK (E : Env) : Prop := ∀ f c, E.gam f = some c → ConOK E f c

theorem clAll_mem {n : Nat} : ∀ {l : List SV}, clAll n l = true → ∀ a ∈ l, a.cl n = true
  | [], h, a, ha => by simp at ha
  | v :: l, h, a, ha => by
    simp [clAll] at h
    rcases List.mem_cons.1 ha with e | e
    · subst e; exact h.1
    · exact clAll_mem h.2 a e

/-- The caller's own words, for a callee. -/
def Sig.sub (S : Sig) (w : World) (g : Option Nat) (ρ : Nat → Nat) (sh : List Shp) : Sig := { W := S.W, F := w, g := g, ρ := ρ, sh := sh }

theorem Rep.sub_base {S : Sig} {M : Mem} {w : World} (h : Rep S M w) {g : Option Nat} {ρ : Nat → Nat} {sh : List Shp} (hg : ∀ b, g = some b → S.W.heap.size ≤ b) : Base (S.sub w g ρ sh) :=
  ⟨Nat.le_trans h.base.size h.size, fun k hk => by
    show w.heap[k]? = S.W.heap[k]?
    have hs := h.base.size
    have hk' : k < S.W.heap.size := hk
    rw [h.kept k (by omega) (fun e => by have := h.base.g _ e; omega), h.base.same k hk'], hg⟩

theorem sub_tr {S : Sig} {w : World} {g : Option Nat} {ρ : Nat → Nat} {sh : List Shp} : Tr 0 S (S.sub w g ρ sh) := ⟨fun _ _ h => h, fun j hj => by omega⟩
theorem sub_rt {S : Sig} {w : World} {g : Option Nat} {ρ : Nat → Nat} {sh : List Shp} : Tr 0 (S.sub w g ρ sh) S := ⟨fun _ _ h => h, fun j hj => by omega⟩

theorem Glob.sub {E : Env} {S : Sig} {w : World} {g : Option Nat} {ρ : Nat → Nat} {sh : List Shp} (h : Glob E S) : Glob E (S.sub w g ρ sh) := fun x t e =>
  let ⟨ds, h0, h1, h2⟩ := h x t e; ⟨ds, h0, Rf_tr sub_tr t ds h0 h1, h2⟩

theorem Rep.lt {S : Sig} {M : Mem} {w : World} (h : Rep S M w) {i : Nat} (hi : i < M.length) : S.ρ i < w.heap.size := by
  obtain ⟨c, e, k, _⟩ := h.blk i _ (List.getElem?_eq_getElem hi)
  exact (Array.getElem?_eq_some_iff.1 k).1

theorem Rep.after {S : Sig} {M : Mem} {w w' : World} (h : Rep S M w) (hk : Kept w w' none) : Rep S M w' := by
  refine ⟨h.base, h.sh, Nat.le_trans h.size hk.size, fun k h1 h2 => ?_, hk.os.trans h.os, hk.tape.trans h.tape, hk.out.trans h.out, h.inj, h.new, fun i t hi => ?_⟩
  · have := h.size
    rw [hk.blk k (by omega) (by simp)]; exact h.kept k h1 h2
  · obtain ⟨cs, el, k1, k2⟩ := h.blk i t hi
    have hil : i < M.length := by
      rcases Nat.lt_or_ge i M.length with h | h
      · exact h
      · simp [List.getElem?_eq_none h] at hi
    exact ⟨cs, el, by rw [hk.blk _ (h.lt hil) (by simp)]; exact k1, k2⟩

theorem conK_sound {E : Env} {f : FuncId} {c : Con} (hc : ConOK E f c) {args : List SV} {M : Mem} {K : SV → Mem → Prop} (hk : conK c args M K)
    {S : Sig} {w : World} {vs : Array Value} (hG : Glob E S) (h : Rep S M w) (hr : All2 (R S) args vs.toList) : CallsTo E f vs S w K := by
  unfold conK at hk
  split at hk
  · rename_i pre f'
    split at hk
    · rename_i r hf
      obtain ⟨h1, hp, hk2⟩ := onB_out hk
      unfold CallsTo
      refine (hc args r hf hp h1 (S.sub w none S.ρ []) w vs (h.sub_base (by simp)) rfl rfl rfl hG.sub (hr.imp fun a ha b hb => R_tr sub_tr (clAll_mem h1 a ha) hb)).mono ?_
      rintro e w' ⟨v, k2, k3, k4, k5⟩
      exact ⟨S, r, M, v, Ext.refl S, h.after k5, hk2, k2, R_tr sub_rt k3 k4⟩
    · exact hk.elim
  · rename_i pt
    split at hk
    · rename_i b l
      split at hk
      · rename_i t hm
        obtain ⟨h1, hk2⟩ := onB_out hk
        simp at h1
        obtain ⟨c1, c2⟩ := h1
        have hm' := hm
        rw [getM_eq] at hm'
        obtain ⟨cs, el, e1, e2⟩ := h.blk b t hm'
        have hbl : b < M.length := by
          rcases Nat.lt_or_ge b M.length with h | h
          · exact h
          · simp [List.getElem?_eq_none h] at hm'
        obtain ⟨v0, vs', hvs, hv0, hr'⟩ : ∃ v0 vs', vs.toList = v0 :: vs' ∧ R S (.ptr b []) v0 ∧ All2 (R S) l vs' := by
          revert hr; generalize vs.toList = l'
          intro hr
          cases hr with
          | cons a1 a2 => exact ⟨_, _, rfl, a1, a2⟩
        have hp : v0 = .pointer (some ⟨S.ρ b, 0, none⟩) := by
          have hv : Rf S (.ptr b []) [v0] := hv0
          simp only [Rf] at hv
          obtain ⟨s, o, s', _, z2, z3⟩ := hv
          simp [Shp.at] at z2 z3
          rw [z3, ← z2.1]
        subst hp
        have hWb : S.W.heap.size ≤ S.ρ b := by
          rcases h.new b hbl with e | e
          · exact h.base.g _ e
          · exact Nat.le_trans h.base.size e
        unfold CallsTo
        have hc' := hc.2 t l _ hk2 c1 c2 (S.sub w (some (S.ρ b)) (fun _ => S.ρ b) [t.shp]) w (S.ρ b) cs el vs' (h.sub_base (by rintro _ ⟨⟩; exact hWb)) rfl rfl rfl rfl e1 (Rf_tr sub_tr t _ c1 e2) hG.sub (hr'.imp fun a ha b hb => R_tr sub_tr (clAll_mem c2 a ha) hb)
        have hva : vs = (Value.pointer (some ⟨S.ρ b, 0, none⟩) :: vs').toArray := Array.toList_inj.1 (by simpa using hvs)
        rw [hva]
        refine hc'.mono ?_
        rintro e w' ⟨r, t', v, cs', k1, k2, k3, k4, k5, k6, k7, k8, k9⟩
        refine ⟨S, r, _, v, Ext.refl S, ?_, k1, k2, R_tr sub_rt k3 k4⟩
        rw [setM_eq]
        refine ⟨h.base, ?_, Nat.le_trans h.size k9.size, ?_, k9.os.trans h.os, k9.tape.trans h.tape, k9.out.trans h.out, by simpa using h.inj, by simpa using h.new, ?_⟩
        · rw [h.sh, List.map_set, k6]
          apply List.ext_getElem?
          intro j
          by_cases hj : b = j
          · subst hj; simp [hbl]; rw [List.getElem?_eq_getElem hbl] at hm'; simp at hm'; rw [hm']
          · simp [hj]
        · intro k q1 q2
          have := h.size
          rw [k9.blk k (by omega) ?_]
          · exact h.kept k q1 q2
          · intro e
            simp at e; subst e
            rcases h.new b hbl with e | e
            · exact q2 e
            · omega
        · intro i u hu
          by_cases hi : b = i
          · subst hi; simp [hbl] at hu; subst hu
            obtain ⟨el', k7⟩ := k7
            exact ⟨cs', el', k7, Rf_tr sub_rt t' _ k5 k8⟩
          · rw [List.getElem?_set_ne hi] at hu
            obtain ⟨c3, e3, j1, j2⟩ := h.blk i u hu
            have hil : i < M.length := by
              rcases Nat.lt_or_ge i M.length with h | h
              · exact h
              · simp [List.getElem?_eq_none h] at hu
            refine ⟨c3, e3, ?_, j2⟩
            rw [k9.blk _ (h.lt hil) ?_]
            · exact j1
            · intro e; simp at e; exact hi (h.inj _ _ hbl hil e)
      · exact hk.elim
    · exact hk.elim

end Go.Sx

namespace Go.Sx
set_option linter.unusedVariables false
set_option linter.unusedSimpArgs false

def Det (F : (SV → Prop) → Prop) : Prop := ∀ K, F K → ∃ v, K v ∧ ∀ K' : SV → Prop, K' v → F K'

theorem onB_in {x : Bool} {K : Prop} (h : x = true) (k : K) : onB x K := by subst h; exact k

theorem det_onB {x : Bool} {F : (SV → Prop) → Prop} (h : Det F) : Det (fun K => onB x (F K)) := by
  intro K hk
  obtain ⟨hx, hk⟩ := onB_out hk
  obtain ⟨v, h1, h2⟩ := h K hk
  exact ⟨v, h1, fun K' k => onB_in hx (h2 K' k)⟩
theorem det_K {v : SV} : Det (fun K => K v) := fun K hk => ⟨v, hk, fun K' k => k⟩
theorem det_F : Det (fun _ => False) := fun K hk => hk.elim

theorem det_pickK {c : Bool} {x y : SV} : Det (pickK c x y) := by
  unfold pickK
  split
  · exact det_K
  · exact det_onB det_K
  · split
    · exact det_K
    · exact det_K

theorem det_binK {P : Program} {op : BinOp} {T : TypeId} {a b : SV} : Det (binK P op T a b) := by
  unfold binK
  cases op <;> dsimp only
  all_goals (
    split
    all_goals first
      | exact det_F
      | exact det_K
      | exact det_onB det_K
      | exact det_onB (det_onB det_K)
      | (split
         all_goals first
           | exact det_F
           | exact det_K))

theorem det_unK {op : UnOp} {a : SV} : Det (unK op a) := by
  unfold unK
  cases op <;> dsimp only
  all_goals first
    | exact det_F
    | (split
       all_goals first
         | exact det_F
         | exact det_K)

theorem det_loadK {P : Program} {T : TypeId} {p : SV} {M : Mem} : Det (loadK P T p M) := by
  unfold loadK
  split
  · split
    · split
      · exact det_onB det_K
      · exact det_F
    · exact det_F
  · exact det_onB det_K
  · exact det_F

theorem det_fieldK {P : Program} {T : TypeId} {f : Nat} {t : SV} {F : SV → (SV → Prop) → Prop} (h : ∀ a, Det (F a)) : Det (fun K => fieldK P T f t (fun a => F a K)) := by
  unfold fieldK
  split
  · split
    · exact det_onB (h _)
    · exact det_F
  · exact det_F

theorem det_fieldAddrK {P : Program} {T : TypeId} {f : Nat} {p : SV} {M : Mem} : Det (fieldAddrK P T f p M) := by
  unfold fieldAddrK
  split
  · split
    · split
      · exact det_fieldK (F := fun _ K => K _) fun _ => det_K
      · exact det_F
    · exact det_F
  · exact det_fieldK (F := fun a K => K (.cptr a)) fun _ => det_K
  · exact det_F

theorem det_elemK {P : Program} {T : TypeId} {t : SV} {ix : Int} {F : PStep → SV → (SV → Prop) → Prop} (h : ∀ s a, Det (F s a)) : Det (fun K => elemK P T t ix (fun s a => F s a K)) := by
  unfold elemK
  split
  · split
    · exact det_onB (det_onB (h _ _))
    · refine det_onB ?_
      split
      · exact det_onB (h _ _)
      · exact det_F
    · exact det_F
  · exact det_F

theorem det_indexAddrK {P : Program} {T : TypeId} {p ix : SV} {M : Mem} : Det (indexAddrK P T p ix M) := by
  unfold indexAddrK
  split
  · split
    · split
      · split
        · exact det_elemK (F := fun s _ K => K _) fun _ _ => det_K
        · exact det_F
      · exact det_F
    · exact det_elemK (F := fun _ a K => K (.cptr a)) fun _ _ => det_K
    · split
      · exact det_onB (det_onB det_K)
      · exact det_F
    · split
      · exact det_onB (det_onB det_K)
      · exact det_F
    · split
      · exact det_onB (det_onB det_K)
      · exact det_F
    · exact det_F
  · exact det_F

theorem det_indexK {P : Program} {T : TypeId} {t ix : SV} : Det (indexK P T t ix) := by
  unfold indexK
  split
  · refine det_elemK (F := fun _ a K => match arrT P T with
      | some (_, e) => onB (ldOK P e a) (K a)
      | none => False) fun _ a => ?_
    split
    · exact det_onB det_K
    · exact det_F
  · exact det_F

theorem det_builtinK {P : Program} {b : Builtin} {at_ : Array TypeId} {args : List SV} {M : Mem} : Det (fun K => builtinK P b at_ args M (fun v _ => K v)) := by
  unfold builtinK
  split
  · split
    · split
      · split
        all_goals first
          | exact det_F
          | exact det_K
      · exact det_K
      · exact det_F
    · exact det_F
  · split
    · split
      · exact det_K
      · exact det_F
    · exact det_F
  · split
    · split
      · exact det_K
      · exact det_F
    · exact det_F
  · exact det_F

theorem det_opK {E : Env} {o : Oper} {ev : Operand → Option SV} {M : Mem} (hp : plainOp o.op = true) : Det (fun K => opK E noCall o ev M (fun v _ => K v)) := by
  unfold opK
  split
  · split
    · exact det_K
    · exact det_F
  · split
    · exact det_K
    · exact det_F
  · rename_i hop; simp [hop, plainOp, quiet] at hp
  · rename_i hop; simp [hop, plainOp, quiet] at hp
  · split
    · split
      · exact det_K
      · exact det_F
    · exact det_F
  · split
    · exact det_loadK
    · exact det_F
  · rename_i hop; simp [hop, plainOp, quiet] at hp
  · split
    · exact det_K
    · exact det_K
    · exact det_K
    · exact det_K
    · exact det_F
  · split
    · exact det_binK
    · exact det_F
  · split
    · exact det_unK
    · exact det_F
  · split
    · split
      · exact det_K
      · exact det_F
    · exact det_F
  · split
    · split
      · exact det_F
      · exact det_onB det_K
      · exact det_F
    · exact det_F
  · rename_i hop; simp [hop, plainOp, quiet] at hp
  · split
    · split
      · split
        · refine det_onB ?_
          intro K hk
          exact ⟨_, hk.2, fun K' k => ⟨hk.1, k⟩⟩
        · exact det_F
      · exact det_F
    · exact det_F
  · split
    · exact det_fieldAddrK
    · exact det_F
  · split
    · refine det_fieldK (F := fun v K => match fOff E.P _ _ with
        | some (_, ft) => onB (ldOK E.P ft v) (K v)
        | none => False) fun a => ?_
      split
      · exact det_onB det_K
      · exact det_F
    · exact det_F
  · split
    · exact det_indexAddrK
    · exact det_F
  · split
    · exact det_indexK
    · exact det_F
  · split
    · split
      · exact det_onB det_K
      · exact det_F
    · exact det_F
  · rename_i hop; simp [hop, plainOp, quiet] at hp
  · exact det_F

theorem det_stepD {E : Env} {o : Oper} {env : List (Tmp × SV)} {loc : List (Tmp × Sl)} {ch : List (Tmp × Bool)} {M : Mem} : Det (stepD E o env loc ch M) := by
  unfold stepD
  split
  · unfold callD
    split
    · exact det_F
    · split
      · split
        · split
          · split
            · intro K hk
              obtain ⟨h1, h2, h3⟩ := onB_out hk
              exact ⟨_, h3, fun K' k => onB_in h1 ⟨h2, k⟩⟩
            · exact det_F
          · exact det_F
        · exact det_F
      · exact det_F
      · exact det_builtinK
  · intro K hk
    obtain ⟨hp, hk⟩ := onB_out hk
    have : Det (fun K => stepK E noCall o env loc ch M (fun v _ => K v)) := by
      unfold stepK
      split
      · split
        · split
          · split
            · exact det_K
            · exact det_pickK
          · split
            · exact det_K
            · exact det_pickK
          · exact det_pickK
        · exact det_F
      · exact det_opK hp
    obtain ⟨v, h1, h2⟩ := this K hk
    exact ⟨v, h1, fun K' k => onB_in hp (h2 K' k)⟩

/-! ### The same, where the same is looked at -/
theorem loadK_memG {P : Program} {T : TypeId} {b : Nat} {p : List PStep} {M : Mem} {K : SV → Prop} : loadK P T (.ptr b p) M K = (match memG M b p with
    | some v => onB (ldOK P T v) (K v)
    | none => False) := by
  unfold loadK memG
  dsimp only
  cases getM M b <;> rfl
theorem fieldAddrK_memG {P : Program} {T : TypeId} {f b : Nat} {p : List PStep} {M : Mem} {K : SV → Prop} : fieldAddrK P T f (.ptr b p) M K = (match memG M b p with
    | some v => fieldK P T f v (fun _ => K (.ptr b (p ++ [.f f])))
    | none => False) := by
  unfold fieldAddrK memG
  dsimp only
  cases getM M b <;> rfl
theorem indexAddrK_memG {P : Program} {T : TypeId} {b : Nat} {p : List PStep} {k : IntKind} {n : Int} {M : Mem} {K : SV → Prop} : indexAddrK P T (.ptr b p) (.i k n) M K = (match memG M b p with
    | some v => elemK P T v n (fun s _ => K (.ptr b (p ++ [s])))
    | none => False) := by
  unfold indexAddrK memG
  dsimp only
  cases getM M b <;> rfl

theorem evAll_congr {ev ev' : Operand → Option SV} : ∀ (l : List Operand), (∀ x ∈ l, ev' x = ev x) → evAll ev' l = evAll ev l
  | [], _ => rfl
  | o :: l, h => by simp only [evAll]; rw [h o (by simp), evAll_congr l fun x hx => h x (by simp [hx])]
theorem evParts_congr {ev ev' : Operand → Option SV} : ∀ (l : List (Nat × Operand)), (∀ x ∈ l, ev' x.2 = ev x.2) → evParts ev' l = evParts ev l
  | [], _ => rfl
  | (i, o) :: l, h => by simp only [evParts]; rw [h (i, o) (by simp), evParts_congr l fun x hx => h x (by simp [hx])]

theorem opK_congr {E : Env} {o : Oper} {ev ev' : Operand → Option SV} {M M' : Mem} {K : SV → Prop} (hp : plainOp o.op = true) (he : ∀ x ∈ o.op.operands, ev' x = ev x)
    (hm : ∀ b p, foot o.op ev = some (b, p) → memG M' b p = memG M b p) (h : opK E noCall o ev M (fun v _ => K v)) : opK E noCall o ev' M' (fun v _ => K v) := by
  unfold opK at h ⊢
  split at h <;> (try (exact h.elim)) <;> rename_i hop <;> simp only [hop] at hp he hm
  all_goals (try (simp [plainOp, quiet] at hp; done))
  · rw [he _ (by simp [Op.operands])]; exact h
  · rw [he _ (by simp [Op.operands])]; exact h
  · rename_i T parts
    have : evParts ev' parts.toList = evParts ev parts.toList := by
      refine evParts_congr _ fun x hx => he _ ?_
      simp only [Op.operands, List.mem_toArray, List.mem_map]
      exact ⟨x, hx, rfl⟩
    rw [this]; exact h
  · rw [he _ (by simp [Op.operands])]
    split at h
    · rename_i v hv
      cases v with
      | ptr b p =>
        have := hm b p (by simp [foot, hv])
        rw [loadK_memG] at h ⊢
        rw [this]; exact h
      | _ => exact h
    · exact h.elim
  · rw [he _ (by simp [Op.operands])]
    split at h <;> first
      | exact h
      | exact h.elim
  · rw [he _ (by simp [Op.operands]), he _ (by simp [Op.operands])]; exact h
  · rw [he _ (by simp [Op.operands])]; exact h
  · rw [he _ (by simp [Op.operands])]; exact h
  · rw [he _ (by simp [Op.operands])]; exact h
  · rw [he _ (by simp [Op.operands]), he _ (by simp [Op.operands])]; exact h
  · rw [he _ (by simp [Op.operands])]
    split at h
    · rename_i v hv
      cases v with
      | ptr b p =>
        have := hm b p (by simp [foot, hv])
        rw [fieldAddrK_memG] at h ⊢
        rw [this]; exact h
      | _ => exact h
    · exact h.elim
  · rw [he _ (by simp [Op.operands])]; exact h
  · rw [he _ (by simp [Op.operands]), he _ (by simp [Op.operands])]
    split at h
    · rename_i v n hv hn
      cases v with
      | ptr b p =>
        have := hm b p (by simp [foot, hv])
        cases n with
        | i k m =>
          rw [indexAddrK_memG] at h ⊢
          rw [this]; exact h
        | _ => exact h
      | _ => exact h
    · exact h.elim
  · rw [he _ (by simp [Op.operands]), he _ (by simp [Op.operands])]; exact h
  · rw [he _ (by simp [Op.operands])]; exact h

theorem evT_congr {env : List (Tmp × SV)} {loc loc' : List (Tmp × Sl)} {ch : List (Tmp × Bool)} {t : Tmp} (h : lookL loc' t = lookL loc t) : evT env loc' ch t = evT env loc ch t := by
  unfold evT; rw [h]
theorem evO_congr {gl : Nat → Option SV} {env : List (Tmp × SV)} {loc loc' : List (Tmp × Sl)} {ch : List (Tmp × Bool)} {x : Operand} (h : ∀ t, x = .tmp t → lookL loc' t = lookL loc t) :
    evO gl env loc' ch x = evO gl env loc ch x := by
  cases x <;> first | exact evT_congr (h _ rfl) | rfl

theorem stepD_congr {E : Env} {o : Oper} {env : List (Tmp × SV)} {loc loc' : List (Tmp × Sl)} {ch : List (Tmp × Bool)} {M M' : Mem} {K : SV → Prop}
    (hl : ∀ t, .tmp t ∈ o.op.operands → lookL loc' t = lookL loc t) (hm : ∀ b p, foot o.op (evO E.glob env loc ch) = some (b, p) → memG M' b p = memG M b p)
    (h : stepD E o env loc ch M K) : stepD E o env loc' ch M' K := by
  have he : ∀ ch x, x ∈ o.op.operands → evO E.glob env loc' ch x = evO E.glob env loc ch x := fun ch x hx => evO_congr fun t e => hl t (e ▸ hx)
  unfold stepD at h ⊢
  split at h
  · rename_i c hop
    simp only [hop] at he hm
    have hx : ∀ x ∈ c.args.toList, evO E.glob env loc' ch x = evO E.glob env loc ch x := fun x hx => he ch x (by
      simp only [Op.operands, Call.operands, Array.mem_append]
      exact .inr (by simpa using hx))
    unfold callD at h ⊢
    rw [evAll_congr _ hx]
    split at h
    · exact h.elim
    · rename_i args hargs
      split at h
      · rename_i f hcal
        have := he ch f (by simp [Op.operands, Call.operands, hcal])
        rw [this]; exact h
      · exact h.elim
      · rename_i b hcal
        unfold builtinK at h ⊢
        exact h
  · rename_i hnc
    obtain ⟨hp, h⟩ := onB_out h
    have hgoal : stepK E noCall o env loc' ch M' (fun v _ => K v) := by
      unfold stepK at h ⊢
      split at h
      · rename_i s x y hop
        simp only [hop] at he hl
        have e1 : evT env loc' ch s = evT env loc ch s := evT_congr (hl s (by simp [Op.operands]))
        rw [e1, he _ x (by simp [Op.operands]), he _ y (by simp [Op.operands])]
        exact h
      · rename_i hnp
        have := opK_congr (E := E) hp (fun x hx => he ch x hx) hm h
        exact this
    exact onB_in hp hgoal

end Go.Sx

namespace Go.Sx
set_option linter.unusedVariables false
set_option linter.unusedSimpArgs false

def DetA {α : Type} (F : (α → Prop) → Prop) : Prop := ∀ K, F K → ∃ v, K v ∧ ∀ K' : α → Prop, K' v → F K'

section
variable {α β γ δ : Type}
theorem d2_K {a : α} {b : β} : Det2 (fun K : α → β → Prop => K a b) := fun K hk => ⟨a, b, hk, fun K' k => k⟩
theorem d2_F : Det2 (fun _ : α → β → Prop => False) := fun K hk => hk.elim
theorem d2_onB {x : Bool} {F : (α → β → Prop) → Prop} (h : Det2 F) : Det2 (fun K => onB x (F K)) := by
  intro K hk
  obtain ⟨hx, hk⟩ := onB_out hk
  obtain ⟨a, b, h1, h2⟩ := h K hk
  exact ⟨a, b, h1, fun K' k => onB_in hx (h2 K' k)⟩
theorem d2_and {p : Prop} {F : (α → β → Prop) → Prop} (h : Det2 F) : Det2 (fun K => p ∧ F K) := by
  intro K hk
  obtain ⟨a, b, h1, h2⟩ := h K hk.2
  exact ⟨a, b, h1, fun K' k => ⟨hk.1, h2 K' k⟩⟩
theorem d2_bind {F : (α → β → Prop) → Prop} {G : α → β → (γ → δ → Prop) → Prop} (h : Det2 F) (hg : ∀ a b, Det2 (G a b)) : Det2 (fun K => F (fun a b => G a b K)) := by
  intro K hk
  obtain ⟨a, b, h1, h2⟩ := h _ hk
  obtain ⟨c, d, h3, h4⟩ := hg a b _ h1
  exact ⟨c, d, h3, fun K' k => h2 _ (h4 K' k)⟩
theorem dA_bind {F : (α → Prop) → Prop} {G : α → (γ → δ → Prop) → Prop} (h : DetA F) (hg : ∀ a, Det2 (G a)) : Det2 (fun K => F (fun a => G a K)) := by
  intro K hk
  obtain ⟨a, h1, h2⟩ := h _ hk
  obtain ⟨c, d, h3, h4⟩ := hg a _ h1
  exact ⟨c, d, h3, fun K' k => h2 _ (h4 K' k)⟩
theorem dA_K {a : α} : DetA (fun K : α → Prop => K a) := fun K hk => ⟨a, hk, fun K' k => k⟩
theorem dA_F : DetA (fun _ : α → Prop => False) := fun K hk => hk.elim
theorem dA_onB {x : Bool} {F : (α → Prop) → Prop} (h : DetA F) : DetA (fun K => onB x (F K)) := by
  intro K hk
  obtain ⟨hx, hk⟩ := onB_out hk
  obtain ⟨a, h1, h2⟩ := h K hk
  exact ⟨a, h1, fun K' k => onB_in hx (h2 K' k)⟩
theorem dA_bindA {F : (α → Prop) → Prop} {G : α → (β → Prop) → Prop} (h : DetA F) (hg : ∀ a, DetA (G a)) : DetA (fun K => F (fun a => G a K)) := by
  intro K hk
  obtain ⟨a, h1, h2⟩ := h _ hk
  obtain ⟨c, h3, h4⟩ := hg a _ h1
  exact ⟨c, h3, fun K' k => h2 _ (h4 K' k)⟩
end

theorem dA_storeK {P : Program} {T : TypeId} {p v : SV} {M : Mem} : DetA (storeK P T p v M) := by
  unfold storeK
  split
  · split
    · split
      · exact dA_onB dA_K
      · exact dA_F
    · exact dA_F
  · exact dA_F
theorem dA_putL {nt : Nat} {loc : List (Tmp × Sl)} {d : Option Tmp} {s : Sl} : DetA (putL nt loc d s) := by
  unfold putL
  split
  · exact dA_K
  · exact dA_onB dA_K
theorem dA_of {F : (SV → Prop) → Prop} (h : Det F) : DetA F := h

section
variable {E : Env} {call : CallT}
theorem d2_callK (hd : ∀ f args M, Det2 (call f args M)) {c : Call} {ev : Operand → Option SV} {M : Mem} : Det2 (callK E call c ev M) := by
  unfold callK
  split
  · exact d2_F
  · split
    · split
      · exact d2_onB (hd _ _ _)
      · exact d2_F
    · split
      · split
        · split
          · exact d2_onB (hd _ _ _)
          · exact d2_F
        · exact d2_F
      · exact d2_F
    · unfold builtinK
      split
      · split
        · split
          · split
            all_goals first
              | exact d2_F
              | exact d2_K
          · exact d2_K
          · exact d2_F
        · exact d2_F
      · split
        · split
          · exact d2_K
          · exact d2_F
        · exact d2_F
      · split
        · split
          · exact d2_K
          · exact d2_F
        · exact d2_F
      · exact d2_F

theorem d2_opK (hd : ∀ f args M, Det2 (call f args M)) {o : Oper} {ev : Operand → Option SV} {M : Mem} : Det2 (opK E call o ev M) := by
  unfold opK
  split
  · split
    · exact d2_K
    · exact d2_F
  · split
    · exact d2_K
    · exact d2_F
  · split
    · exact d2_K
    · exact d2_F
  · split
    · exact d2_onB d2_K
    · exact d2_F
  · split
    · split
      · exact d2_K
      · exact d2_F
    · exact d2_F
  · split
    · exact dA_bind (dA_of det_loadK) fun _ => d2_K
    · exact d2_F
  · split
    · exact dA_bind dA_storeK fun _ => d2_K
    · exact d2_F
  · split
    · exact d2_K
    · exact d2_K
    · exact d2_K
    · exact d2_K
    · exact d2_F
  · split
    · exact dA_bind (dA_of det_binK) fun _ => d2_K
    · exact d2_F
  · split
    · exact dA_bind (dA_of det_unK) fun _ => d2_K
    · exact d2_F
  · split
    · split
      · exact d2_K
      · exact d2_F
    · exact d2_F
  · split
    · split
      · exact d2_F
      · exact d2_onB d2_K
      · exact d2_F
    · exact d2_F
  · split
    · split
      · exact d2_F
      · split
        · exact d2_K
        · split
          · exact d2_K
          · exact d2_F
      · exact d2_F
    · exact d2_F
  · split
    · split
      · split
        · exact d2_onB (d2_and d2_K)
        · exact d2_F
      · exact d2_F
    · exact d2_F
  · split
    · exact dA_bind (dA_of det_fieldAddrK) fun _ => d2_K
    · exact d2_F
  · split
    · refine dA_bind (F := fieldK E.P _ _ _) (dA_of (det_fieldK (F := fun a K => K a) fun _ => det_K)) fun a => ?_
      split
      · exact d2_onB d2_K
      · exact d2_F
    · exact d2_F
  · split
    · exact dA_bind (dA_of det_indexAddrK) fun _ => d2_K
    · exact d2_F
  · split
    · exact dA_bind (dA_of det_indexK) fun _ => d2_K
    · exact d2_F
  · split
    · split
      · exact d2_onB d2_K
      · exact d2_F
    · exact d2_F
  · exact d2_callK hd
  · exact d2_F

theorem d2_stepK (hd : ∀ f args M, Det2 (call f args M)) {o : Oper} {env : List (Tmp × SV)} {loc : List (Tmp × Sl)} {ch : List (Tmp × Bool)} {M : Mem} : Det2 (stepK E call o env loc ch M) := by
  unfold stepK
  split
  · split
    · split
      · split
        · exact d2_K
        · exact dA_bind (dA_of det_pickK) fun _ => d2_K
      · split
        · exact d2_K
        · exact dA_bind (dA_of det_pickK) fun _ => d2_K
      · exact dA_bind (dA_of det_pickK) fun _ => d2_K
    · exact d2_F
  · exact d2_opK hd

theorem d2_regK (hd : ∀ f args M, Det2 (call f args M)) {nt : Nat} {ops : Array Oper} : ∀ (rest : List Oper) (loc : List (Tmp × Sl)) (env : List (Tmp × SV)) (M : Mem), Det2 (regK E call nt ops rest loc env M)
  | [], loc, env, M => d2_K
  | o :: rest, loc, env, M => by
    show Det2 (fun K => regK E call nt ops (o :: rest) loc env M K)
    simp only [regK]
    have go : ∀ (sl : SV → Sl) ch, Det2 (fun K => stepK E call o env loc ch M (fun v M' => putL nt loc o.dst (sl v) (fun loc' => regK E call nt ops rest loc' env M' K))) := fun sl ch =>
      d2_bind (d2_stepK hd) fun v M' => dA_bind dA_putL fun loc' => d2_regK hd rest loc' env M'
    split
    · exact go _ _
    · split
      · exact d2_F
      · split
        · exact d2_F
        · split
          · exact go _ _
          · split
            · exact d2_F
            · exact go _ _
            · exact dA_bind dA_putL fun loc' => d2_regK hd rest loc' env M

theorem d2_sameR {α β : Type} {ops : Array Oper} {i b : Nat} {p : List PStep} {F : (α → β → Prop) → Prop} (h : Det2 F) : ∀ (cl : List Chg), Det2 (fun K => sameR ops i b p cl (F K))
  | [] => h
  | (r, M, M') :: l => by
    unfold sameR
    split
    · exact d2_sameR h l
    · split
      · exact d2_and (d2_sameR h l)
      · exact d2_F
theorem d2_sameC {α β : Type} {ops : Array Oper} {cl : List Chg} {F : (α → β → Prop) → Prop} (h : Det2 F) : ∀ (rd : List Foot), Det2 (fun K => sameC ops cl rd (F K))
  | [] => h
  | (i, b, p) :: l => by
    unfold sameC
    exact d2_sameR (d2_sameC h l) cl

theorem d2_regDK (hd : ∀ f args M, Det2 (call f args M)) {nt : Nat} {ops : Array Oper} : ∀ (rest : List Oper) (j : Nat) (loc : List (Tmp × Sl)) (env : List (Tmp × SV)) (M : Mem) (rd wr : List Foot) (cl : List Chg), Det2 (regDK E call nt ops rest j loc env M rd wr cl)
  | [], j, loc, env, M, rd, wr, cl => d2_onB (d2_sameC d2_K rd)
  | o :: rest, j, loc, env, M, rd, wr, cl => by
    show Det2 (fun K => regDK E call nt ops (o :: rest) j loc env M rd wr cl K)
    simp only [regDK]
    have go : ∀ (sl : SV → Sl) ch rd', Det2 (fun K => stepD E o env loc ch M (fun v => putL nt loc o.dst (sl v) (fun loc' => regDK E call nt ops rest (j + 1) loc' env M rd' wr cl K))) := fun sl ch rd' =>
      dA_bind (dA_of det_stepD) fun v => dA_bind dA_putL fun loc' => d2_regDK hd rest _ loc' env M _ _ _
    split
    · split
      · split
        · exact dA_bind dA_storeK fun M' => d2_regDK hd rest _ _ _ _ _ _ _
        · exact d2_F
      · split
        · exact dA_bind dA_putL fun loc' => d2_regDK hd rest _ _ _ _ _ _ _
        · exact d2_F
      · exact d2_F
    · split
      · split
        · exact d2_onB (d2_bind (d2_stepK hd) fun v M' => dA_bind dA_putL fun loc' => d2_regDK hd rest _ _ _ _ _ _ _)
        · exact d2_F
      · split
        · exact go _ _ _
        · split
          · exact d2_F
          · split
            · exact d2_F
            · split
              · exact go _ _ _
              · split
                · exact d2_F
                · exact go _ _ _
                · exact dA_bind dA_putL fun loc' => d2_regDK hd rest _ _ _ _ _ _ _

theorem d2_rounds {body : St → Kont → Prop} (h : ∀ st, Det2 (body st)) : ∀ (n : Nat) (st : St), Det2 (fun K => rounds body K n st)
  | 0, st => d2_F
  | n + 1, st => by
    unfold rounds
    refine d2_bind (h st) fun e st' => ?_
    cases e <;> first
      | exact d2_rounds h n st'
      | exact d2_K

theorem d2_execC (hd : ∀ f args M, Det2 (call f args M)) (hl : ∀ f i, E.loop f i = none) {fid : FuncId} {nt : Nat} : ∀ (c : Code) (st : St), Det2 (execC E call fid nt c st)
  | .skip, st => d2_K
  | .region id ops draw, st => by
    show Det2 (fun K => execC E call fid nt (.region id ops draw) st K)
    simp only [execC]
    split
    · exact d2_onB (d2_bind (d2_regDK hd _ _ _ _ _ _ _ _) fun loc M => d2_onB d2_K)
    · exact d2_bind (d2_regK hd _ _ _ _) fun loc M => d2_onB d2_K
  | .seq a b, st => by
    show Det2 (fun K => execC E call fid nt (.seq a b) st K)
    simp only [execC]
    refine d2_bind (d2_execC hd hl a st) fun e st' => ?_
    cases e <;> first
      | exact d2_execC hd hl b st'
      | exact d2_K
  | .cond c a b, st => by
    show Det2 (fun K => execC E call fid nt (.cond c a b) st K)
    simp only [execC]
    split
    · exact d2_execC hd hl a st
    · exact d2_execC hd hl b st
    · exact d2_F
  | .block id c, st => by
    show Det2 (fun K => execC E call fid nt (.block id c) st K)
    simp only [execC]
    refine d2_bind (d2_execC hd hl c st) fun e st' => ?_
    split
    · split
      · exact d2_K
      · exact d2_K
    · exact d2_K
  | .loop c, st => by
    show Det2 (fun K => execC E call fid nt (.loop c) st K)
    simp only [execC]
    rw [hl]
    exact d2_rounds (fun st => d2_execC hd hl c st) 40 st
  | .exit id, st => d2_K
  | .label _, st => d2_K
  | .ret, st => d2_K
  | .rangeFunc .., st => fun K hk => by simp only [execC] at hk
  | .scope _, st => fun K hk => by simp only [execC] at hk
  | .goto _, st => fun K hk => by simp only [execC] at hk
  | .refuse _, st => fun K hk => by simp only [execC] at hk

theorem dA_resV {P : Program} {env : List (Tmp × SV)} {M : Mem} : ∀ (l : List ResultVar), DetA (resV P env M l)
  | [] => dA_K
  | .tmp t :: l => by
    show DetA (fun K => resV P env M (.tmp t :: l) K)
    simp only [resV]
    split
    · exact dA_onB (dA_bindA (dA_resV l) fun _ => dA_K)
    · exact dA_F
  | .cell a T :: l => by
    show DetA (fun K => resV P env M (.cell a T :: l) K)
    simp only [resV]
    split
    · exact dA_bindA (F := loadK P T _ M) (dA_of det_loadK) fun v => dA_bindA (dA_resV l) fun _ => dA_K
    · exact dA_F
theorem d2_retK {P : Program} {rs : List ResultVar} {st : St} : Det2 (retK P rs st) := by
  unfold retK
  refine dA_bind (dA_resV rs) fun vs => ?_
  split
  · exact d2_K
  · exact d2_K
theorem d2_bodyK (hd : ∀ f args M, Det2 (call f args M)) (hl : ∀ f i, E.loop f i = none) {f : FuncId} {fn : Func} {args : List SV} {M : Mem} : Det2 (bodyK E call f fn args M) := by
  unfold bodyK
  split
  · exact d2_F
  · refine d2_onB (d2_bind (d2_execC hd hl _ _) fun e st => ?_)
    cases e <;> first
      | exact d2_retK
      | exact d2_F
theorem d2_conK {c : Con} (hc : ∀ pt, c = .mth pt → ∀ t args, Det2 (pt t args)) {args : List SV} {M : Mem} : Det2 (conK c args M) := by
  unfold conK
  split
  · split
    · exact d2_onB (d2_and d2_K)
    · exact d2_F
  · split
    · split
      · exact d2_onB (d2_bind (hc _ rfl _ _) fun r t' => d2_K)
      · exact d2_F
    · exact d2_F
theorem d2_callN (hl : ∀ f i, E.loop f i = none) (hc : ∀ f pt, E.gam f = some (.mth pt) → ∀ t args, Det2 (pt t args)) : ∀ (n : Nat) f args M, Det2 (callN E n f args M)
  | 0, f, args, M => d2_F
  | n + 1, f, args, M => by
    show Det2 (fun K => callN E (n + 1) f args M K)
    simp only [callN]
    split
    · rename_i c hg
      exact d2_conK fun pt e => hc f pt (by rw [hg, e])
    · split
      · exact d2_F
      · exact d2_bodyK (d2_callN hl hc n) hl
end
end Go.Sx

namespace Go.Sx
set_option linter.unusedVariables false
set_option linter.unusedSimpArgs false

/-! ### The edges -/
def stepM (acc : Array Nat) (o : Oper) : Nat := o.after.foldl (fun s e => if Region.binds .any e then s ||| 2 ^ e.on ||| acc.getD e.on 0 else s) 0

theorem before_list (ops : Array Oper) : Region.before ops = ops.toList.foldl (fun acc o => acc.push (stepM acc o)) #[] := by
  unfold Region.before stepM
  rw [← Array.foldl_toList]

theorem foldl_push_get {f : Array Nat → Oper → Nat} : ∀ (l : List Oper) (acc : Array Nat) (j : Nat), j < acc.size → (l.foldl (fun acc o => acc.push (f acc o)) acc)[j]? = acc[j]?
  | [], acc, j, h => rfl
  | o :: l, acc, j, h => by
    simp only [List.foldl_cons]
    rw [foldl_push_get l _ j (by simp; omega), Array.getElem?_push, if_neg (by omega)]
theorem foldl_push_size {f : Array Nat → Oper → Nat} : ∀ (l : List Oper) (acc : Array Nat), (l.foldl (fun acc o => acc.push (f acc o)) acc).size = acc.size + l.length
  | [], acc => rfl
  | o :: l, acc => by simp only [List.foldl_cons]; rw [foldl_push_size l]; simp; omega
theorem foldl_push_at {f : Array Nat → Oper → Nat} : ∀ (l : List Oper) (acc : Array Nat) (i : Nat) (o : Oper), l[i]? = some o →
    ∃ pre : Array Nat, pre.size = acc.size + i ∧ (∀ k, k < pre.size → pre[k]? = (l.foldl (fun acc o => acc.push (f acc o)) acc)[k]?) ∧ (l.foldl (fun acc o => acc.push (f acc o)) acc)[acc.size + i]? = some (f pre o)
  | [], acc, i, o, h => by simp at h
  | x :: l, acc, 0, o, h => by
    simp at h; subst h
    refine ⟨acc, rfl, fun k hk => ?_, ?_⟩
    · simp only [List.foldl_cons]; rw [foldl_push_get l _ k (by simp; omega), Array.getElem?_push, if_neg (by omega)]
    · simp only [List.foldl_cons]; rw [foldl_push_get l _ _ (by simp)]; simp
  | x :: l, acc, i + 1, o, h => by
    simp at h
    obtain ⟨pre, h1, h2, h3⟩ := foldl_push_at (f := f) l (acc.push (f acc x)) i o h
    refine ⟨pre, by rw [h1]; simp; omega, ?_, ?_⟩
    · simpa only [List.foldl_cons] using h2
    · simp only [List.foldl_cons]
      rw [← h3]; congr 1; simp; omega

def mask (ops : Array Oper) (j : Nat) : Nat := (Region.before ops).getD j 0

theorem mask_eq {ops : Array Oper} {j : Nat} {o : Oper} (h : ops[j]? = some o) : ∃ acc : Array Nat, (∀ k, k < j → acc.getD k 0 = mask ops k) ∧ (∀ k, j ≤ k → acc.getD k 0 = 0) ∧ mask ops j = stepM acc o := by
  have h' : ops.toList[j]? = some o := by simpa using h
  obtain ⟨pre, h1, h2, h3⟩ := foldl_push_at (f := stepM) ops.toList #[] j o h'
  rw [show (#[] : Array Nat).size + j = j by simp] at h1 h3
  refine ⟨pre, fun k hk => ?_, fun k hk => ?_, ?_⟩
  · unfold mask; rw [before_list, Array.getD_eq_getD_getElem?, Array.getD_eq_getD_getElem?, h2 k (by omega)]
  · rw [Array.getD_eq_getD_getElem?, Array.getElem?_eq_none (by omega)]; rfl
  · unfold mask; rw [before_list, Array.getD_eq_getD_getElem?, h3]; rfl

theorem foldl_or {acc : Array Nat} {p : Nat} : ∀ (es : List Edge) (s : Nat), ((es.foldl (fun s e => if Region.binds .any e then s ||| 2 ^ e.on ||| acc.getD e.on 0 else s) s).testBit p = true) ↔
    (s.testBit p = true ∨ ∃ e ∈ es, Region.binds .any e = true ∧ (e.on = p ∨ (acc.getD e.on 0).testBit p = true))
  | [], s => by simp
  | e :: es, s => by
    simp only [List.foldl_cons]
    rw [foldl_or es]
    by_cases hb : Region.binds .any e = true
    · simp only [hb, if_true, Nat.testBit_or, Nat.testBit_two_pow, Bool.or_eq_true, decide_eq_true_eq, List.mem_cons, exists_eq_or_imp, true_and]
      constructor
      · rintro ((h | h) | h)
        · rcases h with h | h
          · exact .inl h
          · exact .inr (.inl (.inl h))
        · exact .inr (.inl (.inr h))
        · exact .inr (.inr h)
      · rintro (h | h | h)
        · exact .inl (.inl (.inl h))
        · rcases h with h | h
          · exact .inl (.inl (.inr h))
          · exact .inl (.inr h)
        · exact .inr h
    · have hb' : Region.binds .any e = false := by simpa using hb
      simp [hb', List.mem_cons]

theorem anc_iff {ops : Array Oper} {p j : Nat} {o : Oper} (h : ops[j]? = some o) (hlt : mask ops j < 2 ^ j) : anc ops p j = true ↔ ∃ e ∈ o.after.toList, Region.binds .any e = true ∧ (e.on = p ∨ anc ops p e.on = true) := by
  obtain ⟨acc, h1, h2, h3⟩ := mask_eq h
  have key : anc ops p j = true ↔ ∃ e ∈ o.after.toList, Region.binds .any e = true ∧ (e.on = p ∨ (acc.getD e.on 0).testBit p = true) := by
    show (mask ops j).testBit p = true ↔ _
    rw [h3]
    unfold stepM
    rw [← Array.foldl_toList, foldl_or]
    simp
  have bit : ∀ e ∈ o.after.toList, Region.binds .any e = true → e.on < j := by
    intro e he hb
    have : (mask ops j).testBit e.on = true := by
      rw [h3]; unfold stepM
      rw [← Array.foldl_toList, foldl_or]
      exact .inr ⟨e, he, hb, .inl rfl⟩
    refine Classical.byContradiction fun hn => ?_
    have := Nat.testBit_lt_two_pow (i := e.on) (Nat.lt_of_lt_of_le hlt (Nat.pow_le_pow_right (by omega) (by omega : j ≤ e.on)))
    simp_all
  rw [key]
  constructor
  · rintro ⟨e, he, hb, hp⟩
    refine ⟨e, he, hb, hp.imp id fun hp => ?_⟩
    rw [h1 _ (bit e he hb)] at hp; exact hp
  · rintro ⟨e, he, hb, hp⟩
    refine ⟨e, he, hb, hp.imp id fun hp => ?_⟩
    rw [h1 _ (bit e he hb)]; exact hp

theorem anc_lt {ops : Array Oper} {p j : Nat} (hlt : mask ops j < 2 ^ j) (h : anc ops p j = true) : p < j := by
  refine Classical.byContradiction fun hn => ?_
  have h' : (mask ops j).testBit p = true := h
  have := Nat.testBit_lt_two_pow (i := p) (Nat.lt_of_lt_of_le hlt (Nat.pow_le_pow_right (by omega) (by omega : j ≤ p)))
  simp_all

theorem allN_iff {f : Nat → Bool} : ∀ {n : Nat}, allN f n = true ↔ ∀ j, j < n → f j = true
  | 0 => by simp [allN]
  | n + 1 => by
    simp only [allN, Bool.and_eq_true, allN_iff]
    constructor
    · rintro ⟨h1, h2⟩ j hj
      rcases Nat.lt_or_ge j n with h | h
      · exact h2 j h
      · have : j = n := by omega
        subst this; exact h1
    · intro h; exact ⟨h n (by omega), fun j hj => h j (by omega)⟩

theorem memT_iff : ∀ {l : List Tmp} {t : Tmp}, memT l t = true ↔ t ∈ l
  | [], t => by simp [memT]
  | s :: l, t => by
    simp only [memT, Bool.or_eq_true, memT_iff, List.mem_cons]
    constructor
    · rintro (h | h)
      · exact .inl (Nat.eq_of_beq_eq_true h).symm
      · exact .inr h
    · rintro (h | h)
      · left; subst h; exact Nat.beq_refl t
      · exact .inr h
theorem tmpsOf_mem : ∀ {l : List Operand} {t : Tmp}, t ∈ tmpsOf l ↔ .tmp t ∈ l
  | [], t => by simp [tmpsOf]
  | x :: l, t => by cases x <;> simp [tmpsOf, tmpsOf_mem]

/-- What the check says. -/
structure Dr (E : Env) (ops : Array Oper) : Prop where
  lt : ∀ j, j < ops.size → mask ops j < 2 ^ j
  uniq : ∀ (p j : Nat) a b t, ops[p]? = some a → ops[j]? = some b → a.dst = some t → b.dst = some t → p = j
  dep : ∀ (p j : Nat) a b t, ops[p]? = some a → ops[j]? = some b → a.dst = some t → (.tmp t ∈ b.op.operands ∨ ∃ g w, b.guard = some (g, w) ∧ g = p) → anc ops p j = true
  st : ∀ (p j : Nat) a b, ops[p]? = some a → ops[j]? = some b → isMem E a.op = true → isMem E b.op = true → p < j → anc ops p j = true

theorem dr_of {E : Env} {ops : Array Oper} (h : drOK E ops = true) : Dr E ops := by
  unfold drOK at h
  rw [allN_iff] at h
  have hp : ∀ p j a b, ops[p]? = some a → ops[j]? = some b → pairOK E ops p j = true := by
    intro p j a b ha hb
    have h1 : j < ops.size := (Array.getElem?_eq_some_iff.1 hb).1
    have h2 : p < ops.size := (Array.getElem?_eq_some_iff.1 ha).1
    have := h j h1
    simp only [Bool.and_eq_true, allN_iff] at this
    exact this.2 p h2
  refine ⟨fun j hj => ?_, ?_, ?_, ?_⟩
  · have := h j hj
    simp only [Bool.and_eq_true] at this
    have h1 := this.1
    unfold mask
    exact Nat.lt_of_lt_of_le (by simpa using h1) (Nat.le_refl _)
  · intro p j a b t ha hb hd hd'
    have := hp p j a b ha hb
    simp only [pairOK, ha, hb, hd, hd', Bool.and_eq_true, Bool.or_eq_true] at this
    rcases this.1.1 with h | h
    · exact Nat.eq_of_beq_eq_true h
    · rw [show Nat.beq t t = true from Nat.beq_refl t] at h; simp at h
  · intro p j a b t ha hb hd hl
    have := hp p j a b ha hb
    simp only [pairOK, ha, hb, hd, Bool.and_eq_true, Bool.or_eq_true] at this
    rcases this.1.2 with h | h
    · exfalso
      rw [Bool.not_eq_true', Bool.or_eq_false_iff] at h
      obtain ⟨e1, e2⟩ := h
      rcases hl with hl | ⟨g, w, hg, e⟩
      · have : memT (tmpsOf b.op.operands.toList) t = true := memT_iff.2 (tmpsOf_mem.2 (by simpa using hl))
        rw [this] at e1; simp at e1
      · subst e
        simp only [hg] at e2
        rw [show Nat.beq g g = true from Nat.beq_refl g] at e2; simp at e2
    · exact h.1
  · intro p j a b ha hb h1 h2 hlt
    have := hp p j a b ha hb
    simp only [pairOK, ha, hb, Bool.and_eq_true, Bool.or_eq_true] at this
    rcases this.2 with h | h
    · have hb : Nat.blt p j = true := by simpa using hlt
      simp [h1, h2, hb] at h
    · exact h

/-! ### Places apart -/
theorem get_put_apart : ∀ (p q : List PStep) (t t' v : SV), diverge p q = true → SV.put t q v = some t' → SV.get t' p = SV.get t p
  | .f k :: p, .f l :: q, t, t', v, hd, h => by
    simp only [diverge, Bool.or_eq_true] at hd
    cases t with
    | agg fs =>
      simp only [SV.put] at h
      cases hg : fs.get l with
      | none => simp [hg] at h
      | some a =>
        simp only [hg] at h
        cases hp : SV.put a q v with
        | none => simp [hp] at h
        | some a' =>
          simp [hp] at h; subst h
          have hset : ∀ (fs : SVs) (l k : Nat) (a : SV), fs.get l = some a → (fs.set l a').get k = if k = l then some a' else fs.get k := by
            intro fs
            induction fs using SVs.rec (motive_1 := fun _ => True) with
            | nil => intro l k a h; simp [SVs.get] at h
            | cons u r _ ih =>
              intro l k a h
              cases l with
              | zero => cases k <;> simp [SVs.set, SVs.get]
              | succ l =>
                cases k with
                | zero => simp [SVs.set, SVs.get]
                | succ k => simp only [SVs.get] at h; simp [SVs.set, SVs.get, ih l k a h]
            | _ => trivial
          simp only [SV.get]
          rw [hset fs l k a hg]
          by_cases e : k = l
          · subst e
            rw [if_pos rfl, hg]
            rcases hd with hd | hd
            · rw [show Nat.beq k k = true from Nat.beq_refl k] at hd; simp at hd
            · exact get_put_apart p q a a' v hd hp
          · rw [if_neg e]
    | _ => simp [SV.put] at h
  | [], _, _, _, _, hd, _ => by simp [diverge] at hd
  | .x _ :: _, _, _, _, _, hd, _ => by simp [diverge] at hd
  | .f _ :: _, [], _, _, _, hd, _ => by simp [diverge] at hd
  | .f _ :: _, .x _ :: _, _, _, _, hd, _ => by simp [diverge] at hd

theorem memG_apart {M : Mem} {b c : Nat} {p q : List PStep} {t t' v : SV} (hd : (!Nat.beq b c || diverge p q) = true) (hg : getM M c = some t) (hp : SV.put t q v = some t') :
    memG (setM M c t') b p = memG M b p := by
  unfold memG
  rw [getM_eq] at hg
  rw [getM_eq, getM_eq, setM_eq]
  have hc : c < M.length := by
    rcases Nat.lt_or_ge c M.length with h | h
    · exact h
    · simp [List.getElem?_eq_none h] at hg
  by_cases e : c = b
  · subst e
    have hd' : diverge p q = true := by
      rw [show Nat.beq c c = true from Nat.beq_refl c] at hd; simpa using hd
    have h1 : (M.set c t')[c]? = some t' := by simp [hc]
    rw [h1, hg]
    exact get_put_apart p q t t' v hd' hp
  · rw [List.getElem?_set_ne e]

theorem memG_born {M : Mem} {b : Nat} {p : List PStep} {v : SV} (hd : Nat.beq b M.length = false) : memG (M ++ [v]) b p = memG M b p := by
  unfold memG
  rw [getM_eq, getM_eq]
  have hne : b ≠ M.length := by rintro rfl; rw [show Nat.beq M.length M.length = true from Nat.beq_refl _] at hd; simp at hd
  rcases Nat.lt_or_ge b M.length with h | h
  · rw [List.getElem?_append_left h]
  · rw [List.getElem?_eq_none (by simp; omega), List.getElem?_eq_none h]
theorem mem_store {E : Env} {op : Op} (h : isStore op = true) : isMem E op = true := by unfold isMem; rw [h]; rfl
theorem bornV_store {E : Env} {op : Op} {ev : Operand → Option SV} {v : SV} (h : bornV E op ev = some v) : isStore op = true := by
  unfold bornV at h
  split at h
  · rfl
  · rfl
  · simp at h

end Go.Sx

namespace Go.Sx
set_option linter.unusedVariables false
set_option linter.unusedSimpArgs false

structure Ent where
  sl : Option (Tmp × Sl)
  ft : Option (Nat × List PStep)
  st : Option (Nat × List PStep)
  M : Mem
  M' : Mem
  im : Bool

section
variable (E : Env) (call : CallT) (nt : Nat) (ops : Array Oper) (env : List (Tmp × SV))

/-- What is known of an operation in the text's order. -/
inductive EntOK (o : Oper) (loc : List (Tmp × Sl)) (e : Ent) : Prop where
  | store (T : TypeId) (x y : Operand) (b : Nat) (p : List PStep) (v t t' : SV) (hop : o.op = .store T x y) (hg : o.guard = none) (hd : o.dst = none) (hs : e.sl = none) (hx : evO E.glob env loc [] x = some (.ptr b p))
      (hy : evO E.glob env loc [] y = some v) (ht : getM e.M b = some t) (hp : SV.put t p v = some t') (hz : (Nat.beq v.size (E.P.cellsOf T) && (!Nat.beq v.size 0 && !v.isTup)) = true) (hM : e.M' = setM e.M b t') (hst : e.st = some (b, p)) (hnm : e.im = false)
  | born (v : SV) (d : Tmp) (hbv : bornV E o.op (evO E.glob env loc []) = some v) (hg : o.guard = none) (hdst : o.dst = some d) (hd : d < nt) (hs : e.sl = some (d, .v (.ptr e.M.length []))) (hM : e.M' = e.M ++ [v])
      (hst : e.st = some (e.M.length, [])) (hnm : e.im = false)
  | imp (v : SV) (him : isImp E o.op = true) (hdm : e.im = true) (hg : o.guard = none) (hs : e.sl = o.dst.map fun d => (d, .v v)) (hst : e.st = none) (hft : e.ft = none) (hd : ∀ d, o.dst = some d → d < nt)
      (hr : ∀ K : SV → Mem → Prop, K v e.M' → stepK E call o env loc [] e.M K)
  | plain (v : SV) (hns : isMem E o.op = false) (hg : o.guard = none) (hs : e.sl = o.dst.map fun d => (d, .v v)) (hM : e.M' = e.M) (hst : e.st = none) (hd : ∀ d, o.dst = some d → d < nt)
      (hft : e.ft = foot o.op (evO E.glob env loc [])) (hr : ∀ K : SV → Prop, K v → stepD E o env loc [] e.M K) (hnm : e.im = false)
  | guarded (v : SV) (g : Nat) (w : Bool) (s : Tmp) (hns : isMem E o.op = false) (hg : o.guard = some (g, w)) (hgs : (ops[g]?).bind (·.dst) = some s) (hl : lookL loc s ≠ none) (hs : e.sl = o.dst.map fun d => (d, .opt s w v)) (hM : e.M' = e.M) (hst : e.st = none)
      (hd : ∀ d, o.dst = some d → d < nt)
      (hr : (e.ft = foot o.op (evO E.glob env loc ((s, w) :: chain loc 8 s)) ∧ ∀ K : SV → Prop, K v → stepD E o env loc ((s, w) :: chain loc 8 s) e.M K) ∨ guardB env loc ((s, w) :: chain loc 8 s) = some false) (hnm : e.im = false)

/-- The operations one behind the other. -/
inductive Trace : List Oper → List (Tmp × Sl) → Mem → List Ent → List (Tmp × Sl) → Mem → Prop where
  | nil (loc : List (Tmp × Sl)) (M : Mem) : Trace [] loc M [] loc M
  | cons (o : Oper) (rest : List Oper) (loc : List (Tmp × Sl)) (e : Ent) (tr : List Ent) (locF : List (Tmp × Sl)) (MF : Mem) (h : EntOK E call nt ops env o loc e)
      (hf : ∀ d s, e.sl = some (d, s) → fresh loc d = true) (ht : Trace rest (e.sl.toList ++ loc) e.M' tr locF MF) : Trace (o :: rest) loc e.M (e :: tr) locF MF

def feet : List Ent → Nat → List Foot
  | [], _ => []
  | e :: l, j => (e.ft.toList.map fun x => (j, x.1, x.2)) ++ feet l (j + 1)
def sts : List Ent → Nat → List Foot
  | [], _ => []
  | e :: l, j => (e.st.toList.map fun x => (j, x.1, x.2)) ++ sts l (j + 1)
def cls : List Ent → Nat → List Chg
  | [], _ => []
  | e :: l, j => (match e.im with
    | true => [(j, e.M, e.M')]
    | false => []) ++ cls l (j + 1)
end

theorem disjAll_iff {ops : Array Oper} : ∀ {rd wr : List Foot}, disjAll ops rd wr = true ↔ ∀ i b p, (i, b, p) ∈ rd → ∀ k c q, (k, c, q) ∈ wr → anc ops i k = true ∨ anc ops k i = true ∨ (!Nat.beq b c || diverge p q) = true
  | [], wr => by simp [disjAll]
  | (i, b, p) :: l, wr => by
    simp only [disjAll, Bool.and_eq_true, List.all_eq_true, disjAll_iff, List.mem_cons]
    constructor
    · rintro ⟨h1, h2⟩ i' b' p' (h | h) k c q hk
      · simp at h; obtain ⟨rfl, rfl, rfl⟩ := h
        have := h1 (k, c, q) hk
        simpa only [Bool.or_eq_true] using this
      · exact h2 i' b' p' h k c q hk
    · intro h
      refine ⟨fun x hx => ?_, fun i' b' p' hi => h i' b' p' (.inr hi)⟩
      obtain ⟨k, c, q⟩ := x
      have := h i b p (.inl rfl) k c q hx
      simpa only [Bool.or_eq_true] using this

theorem sameR_out {ops : Array Oper} {i b : Nat} {p : List PStep} : ∀ {cl : List Chg} {K : Prop}, sameR ops i b p cl K → K ∧ ∀ r M M', (r, M, M') ∈ cl → anc ops i r = true ∨ anc ops r i = true ∨ memG M b p = memG M' b p
  | [], K, h => ⟨h, fun r M M' hm => by simp at hm⟩
  | (r0, N, N') :: l, K, h => by
    simp only [sameR] at h
    split at h
    · rename_i ha
      obtain ⟨h1, h2⟩ := sameR_out h
      refine ⟨h1, fun r M M' hm => ?_⟩
      rcases List.mem_cons.1 hm with e | hm
      · simp at e; obtain ⟨rfl, rfl, rfl⟩ := e
        simp only [Bool.or_eq_true] at ha
        rcases ha with ha | ha
        · exact .inl ha
        · exact .inr (.inl ha)
      · exact h2 r M M' hm
    · split at h
      · rename_i x y hx hy
        obtain ⟨h0, h⟩ := h
        obtain ⟨h1, h2⟩ := sameR_out h
        refine ⟨h1, fun r M M' hm => ?_⟩
        rcases List.mem_cons.1 hm with e | hm
        · simp at e; obtain ⟨rfl, rfl, rfl⟩ := e
          exact .inr (.inr (by rw [hx, hy, h0]))
        · exact h2 r M M' hm
      · exact h.elim
theorem sameC_out {ops : Array Oper} {cl : List Chg} : ∀ {rd : List Foot} {K : Prop}, sameC ops cl rd K → K ∧ ∀ i b p, (i, b, p) ∈ rd → ∀ r M M', (r, M, M') ∈ cl → anc ops i r = true ∨ anc ops r i = true ∨ memG M b p = memG M' b p
  | [], K, h => ⟨h, fun i b p hm => by simp at hm⟩
  | (i0, b0, p0) :: l, K, h => by
    simp only [sameC] at h
    obtain ⟨h1, h2⟩ := sameR_out h
    obtain ⟨h3, h4⟩ := sameC_out h1
    refine ⟨h3, fun i b p hm => ?_⟩
    rcases List.mem_cons.1 hm with e | hm
    · simp at e; obtain ⟨rfl, rfl, rfl⟩ := e; exact h2
    · exact h4 i b p hm

theorem det2_stepK_imp {E : Env} {call : CallT} (hd : ∀ f args M, Det2 (call f args M)) {o : Oper} {env : List (Tmp × SV)} {loc : List (Tmp × Sl)} {ch : List (Tmp × Bool)} {M : Mem} (hi : isImp E o.op = true) : Det2 (stepK E call o env loc ch M) := by
  intro K hk
  have hno : ∃ c, o.op = .call c := by
    unfold isImp at hi
    split at hi
    · exact ⟨_, by assumption⟩
    · simp at hi
  obtain ⟨c, hop⟩ := hno
  have hst : ∀ K', stepK E call o env loc ch M K' = callK E call c (evO E.glob env loc ch) M K' := by
    intro K'; unfold stepK opK; rw [hop]
  rw [hst] at hk
  simp only [hst]
  unfold isImp at hi
  rw [hop] at hi
  unfold callK at hk ⊢
  split at hk
  · exact hk.elim
  · rename_i args ha
    split at hk
    · rename_i f hcal
      split at hk
      · rename_i g hg
        obtain ⟨h1, h2⟩ := onB_out hk
        obtain ⟨a, b, h3, h4⟩ := hd _ _ _ _ h2
        exact ⟨a, b, h3, fun K' k => onB_in h1 (h4 K' k)⟩
      · exact hk.elim
    · rename_i r name hcal
      split at hk
      · rename_i t v hr
        split at hk
        · rename_i g d hm
          split at hk
          · rename_i v' hv
            obtain ⟨h1, h2⟩ := onB_out hk
            obtain ⟨a, b, h3, h4⟩ := hd _ _ _ _ h2
            exact ⟨a, b, h3, fun K' k => onB_in h1 (h4 K' k)⟩
          · exact hk.elim
        · exact hk.elim
      · exact hk.elim
    · rename_i b hcal
      simp only [hcal] at hi
      simp at hi

theorem regDK_trace {E : Env} {call : CallT} (hdc : E.det = true → ∀ f args M, Det2 (call f args M)) {nt : Nat} {ops : Array Oper} {env : List (Tmp × SV)} : ∀ (rest : List Oper) (j : Nat) (loc : List (Tmp × Sl)) (M : Mem) (rd wr : List Foot) (cl : List Chg) (K : List (Tmp × Sl) → Mem → Prop), regDK E call nt ops rest j loc env M rd wr cl K →
    ∃ (tr : List Ent) (locF : List (Tmp × Sl)) (MF : Mem) (rdF wrF : List Foot) (clF : List Chg), Trace E call nt ops env rest loc M tr locF MF ∧ K locF MF ∧ disjAll ops rdF wrF = true ∧ (∀ x ∈ rd, x ∈ rdF) ∧ (∀ x ∈ wr, x ∈ wrF) ∧ (∀ x ∈ feet tr j, x ∈ rdF) ∧ (∀ x ∈ sts tr j, x ∈ wrF) ∧ (∀ x ∈ cl, x ∈ clF) ∧ (∀ x ∈ cls tr j, x ∈ clF) ∧ (∀ i b p, (i, b, p) ∈ rdF → ∀ r M M', (r, M, M') ∈ clF → anc ops i r = true ∨ anc ops r i = true ∨ memG M b p = memG M' b p)
  | [], j, loc, M, rd, wr, cl, K, h => by
    simp only [regDK] at h
    obtain ⟨h1, h2⟩ := onB_out h
    obtain ⟨h2, h3⟩ := sameC_out h2
    exact ⟨[], loc, M, rd, wr, cl, .nil loc M, h2, h1, fun x h => h, fun x h => h, by simp [feet], by simp [sts], fun x h => h, by simp [cls], h3⟩
  | o :: rest, j, loc, M, rd, wr, cl, K, h => by
    simp only [regDK] at h
    have fin : ∀ (e : Ent) (rd' wr' : List Foot) (cl' : List Chg), e.M = M → EntOK E call nt ops env o loc e → (∀ d s, e.sl = some (d, s) → fresh loc d = true) → regDK E call nt ops rest (j + 1) (e.sl.toList ++ loc) env e.M' rd' wr' cl' K →
        (∀ x ∈ rd, x ∈ rd') → (∀ x ∈ wr, x ∈ wr') → (∀ x, e.ft = some x → (j, x.1, x.2) ∈ rd') → (∀ x, e.st = some x → (j, x.1, x.2) ∈ wr') → (∀ x ∈ cl, x ∈ cl') → (e.im = true → (j, e.M, e.M') ∈ cl') →
        ∃ (tr : List Ent) (locF : List (Tmp × Sl)) (MF : Mem) (rdF wrF : List Foot) (clF : List Chg), Trace E call nt ops env (o :: rest) loc M tr locF MF ∧ K locF MF ∧ disjAll ops rdF wrF = true ∧ (∀ x ∈ rd, x ∈ rdF) ∧ (∀ x ∈ wr, x ∈ wrF) ∧ (∀ x ∈ feet tr j, x ∈ rdF) ∧ (∀ x ∈ sts tr j, x ∈ wrF) ∧ (∀ x ∈ cl, x ∈ clF) ∧ (∀ x ∈ cls tr j, x ∈ clF) ∧ (∀ i b p, (i, b, p) ∈ rdF → ∀ r M M', (r, M, M') ∈ clF → anc ops i r = true ∨ anc ops r i = true ∨ memG M b p = memG M' b p) := by
      intro e rd' wr' cl' hM hok hfr hk h1 h2 h3 h4 h5 h6
      obtain ⟨tr, locF, MF, rdF, wrF, clF, t1, t2, t3, t4, t5, t6, t7, t8, t9, t10⟩ := regDK_trace hdc rest (j + 1) _ _ _ _ _ K hk
      subst hM
      refine ⟨e :: tr, locF, MF, rdF, wrF, clF, .cons o rest loc e tr locF MF hok hfr t1, t2, t3, fun x hx => t4 x (h1 x hx), fun x hx => t5 x (h2 x hx), fun x hx => ?_, fun x hx => ?_, fun x hx => t8 x (h5 x hx), fun x hx => ?_, t10⟩
      · simp only [feet, List.mem_append, List.mem_map] at hx
        rcases hx with ⟨y, hy, rfl⟩ | hx
        · exact t4 _ (h3 y (by simpa using hy))
        · exact t6 x hx
      · simp only [sts, List.mem_append, List.mem_map] at hx
        rcases hx with ⟨y, hy, rfl⟩ | hx
        · exact t5 _ (h4 y (by simpa using hy))
        · exact t7 x hx
      · simp only [cls, List.mem_append] at hx
        rcases hx with hx | hx
        · split at hx
          · rename_i him
            simp at hx; subst hx
            exact t8 _ (h6 him)
          · simp at hx
        · exact t9 x hx
    have putc : ∀ (sl : Sl) (K' : List (Tmp × Sl) → Prop), putL nt loc o.dst sl K' → (∀ d, o.dst = some d → d < nt) ∧ (∀ d s, (o.dst.map fun d => (d, sl)) = some (d, s) → fresh loc d = true) ∧ K' ((o.dst.map fun d => (d, sl)).toList ++ loc) := by
      intro sl K' hp
      rcases putL_out hp with ⟨e, hk⟩ | ⟨t, e, hf, ht, hk⟩
      · simp [e, hk]
      · refine ⟨fun d hd => ?_, fun d s hd => ?_, ?_⟩
        · rw [e] at hd; simp at hd; subst hd; exact ht
        · rw [e] at hd; simp at hd; rw [← hd.1]; exact hf
        · rw [e]; simpa using hk
    split at h
    · split at h
      · rename_i T x y hop hg hd
        split at h
        · rename_i b p v hx hy
          unfold storeK at h
          dsimp only at h
          split at h
          · rename_i t ht
            split at h
            · rename_i t' hp
              obtain ⟨hz, h⟩ := onB_out h
              exact fin ⟨none, none, some (b, p), M, setM M b t', false⟩ rd ((j, b, p) :: wr) cl rfl (.store T x y b p v t t' hop hg hd rfl hx hy ht hp hz rfl rfl rfl) (by simp) h (fun x h => h) (fun x h => by simp [h]) (by simp) (by rintro _ ⟨⟩; simp) (fun x h => h) (by simp)
            · exact h.elim
          · exact h.elim
        · exact h.elim
      · rename_i d hg hd
        split at h
        · rename_i v hbv
          rw [hd] at putc
          obtain ⟨p1, p2, p3⟩ := putc _ _ h
          exact fin ⟨some (d, .v (.ptr M.length [])), none, some (M.length, []), M, M ++ [v], false⟩ rd ((j, M.length, []) :: wr) cl rfl (.born v d hbv hg hd (p1 d rfl) rfl rfl rfl rfl) (fun d s h => p2 d s h) p3 (fun x h => h) (fun x h => by simp [h]) (by simp) (by rintro _ ⟨⟩; simp) (fun x h => h) (by simp)
        · exact h.elim
      · exact h.elim
    · rename_i hns0
      split at h
      · rename_i him
        split at h
        · rename_i hg
          obtain ⟨hdt, h⟩ := onB_out h
          obtain ⟨v, M', h1, h2⟩ := det2_stepK_imp (hdc hdt) him _ h
          obtain ⟨p1, p2, p3⟩ := putc _ _ h1
          exact fin ⟨o.dst.map fun d => (d, .v v), none, none, M, M', true⟩ rd wr ((j, M, M') :: cl) rfl (.imp v him rfl hg rfl rfl rfl p1 h2) p2 p3 (fun x h => h) (fun x h => h) (by simp) (by simp) (fun x h => by simp [h]) (by simp)
        · exact h.elim
      rename_i him
      have hns : isMem E o.op = false := by
        unfold isMem; rw [hns0, him]; rfl
      split at h
      · rename_i hg
        obtain ⟨v, h1, h2⟩ := det_stepD _ h
        obtain ⟨p1, p2, p3⟩ := putc _ _ h1
        refine fin ⟨o.dst.map fun d => (d, .v v), foot o.op (evO E.glob env loc []), none, M, M, false⟩ _ wr cl rfl (.plain v hns hg rfl rfl rfl p1 rfl h2 rfl) p2 p3 (fun x hx => ?_) (fun x h => h) (fun x hx => ?_) (by simp) (fun x h => h) (by simp)
        · unfold addFoot; split <;> simp [hx]
        · simp only at hx; rw [hx]; simp [addFoot]
      · rename_i g w hg
        split at h
        · exact h.elim
        · rename_i s hs
          split at h
          · exact h.elim
          · rename_i hfr
            have hls : lookL loc s ≠ none := by
              intro e
              have : ∀ (l : List (Tmp × Sl)), lookL l s = none → fresh l s = true := by
                intro l
                induction l with
                | nil => intro _; rfl
                | cons x l ih =>
                  intro he
                  obtain ⟨s', y⟩ := x
                  by_cases hq : s' = s
                  · subst hq; rw [lookL_cons_eq] at he; simp at he
                  · rw [lookL_cons_ne hq] at he
                    have : Nat.beq s' s = false := by
                      cases e : Nat.beq s' s with
                      | false => rfl
                      | true => exact (hq (Nat.eq_of_beq_eq_true e)).elim
                    simp only [fresh, this, ih he]; rfl
              rw [this loc e] at hfr; simp at hfr
            have run : ∀ (h : stepD E o env loc ((s, w) :: chain loc 8 s) M (fun v => putL nt loc o.dst (.opt s w v) (fun loc' => regDK E call nt ops rest (j + 1) loc' env M (addFoot j (foot o.op (evO E.glob env loc ((s, w) :: chain loc 8 s))) rd) wr cl K))),
                ∃ (tr : List Ent) (locF : List (Tmp × Sl)) (MF : Mem) (rdF wrF : List Foot) (clF : List Chg), Trace E call nt ops env (o :: rest) loc M tr locF MF ∧ K locF MF ∧ disjAll ops rdF wrF = true ∧ (∀ x ∈ rd, x ∈ rdF) ∧ (∀ x ∈ wr, x ∈ wrF) ∧ (∀ x ∈ feet tr j, x ∈ rdF) ∧ (∀ x ∈ sts tr j, x ∈ wrF) ∧ (∀ x ∈ cl, x ∈ clF) ∧ (∀ x ∈ cls tr j, x ∈ clF) ∧ (∀ i b p, (i, b, p) ∈ rdF → ∀ r M M', (r, M, M') ∈ clF → anc ops i r = true ∨ anc ops r i = true ∨ memG M b p = memG M' b p) := by
              intro h
              obtain ⟨v, h1, h2⟩ := det_stepD _ h
              obtain ⟨p1, p2, p3⟩ := putc _ _ h1
              refine fin ⟨o.dst.map fun d => (d, .opt s w v), foot o.op (evO E.glob env loc ((s, w) :: chain loc 8 s)), none, M, M, false⟩ _ wr cl rfl (.guarded v g w s hns hg hs hls rfl rfl rfl p1 (.inl ⟨rfl, h2⟩) rfl) p2 p3 (fun x hx => ?_) (fun x h => h) (fun x hx => ?_) (by simp) (fun x h => h) (by simp)
              · unfold addFoot; split <;> simp [hx]
              · simp only at hx; rw [hx]; simp [addFoot]
            split at h
            · exact run h
            · split at h
              · exact h.elim
              · exact run h
              · rename_i hgb
                obtain ⟨p1, p2, p3⟩ := putc _ _ h
                exact fin ⟨o.dst.map fun d => (d, .opt s w (dflt E o.type)), none, none, M, M, false⟩ rd wr cl rfl (.guarded _ g w s hns hg hs hls rfl rfl rfl p1 (.inr hgb) rfl) p2 p3 (fun x h => h) (fun x h => h) (by simp) (by simp) (fun x h => h) (by simp)

end Go.Sx

namespace Go.Sx
set_option linter.unusedVariables false
set_option linter.unusedSimpArgs false

theorem noCall_ok {E : Env} : CallOK E noCall := ⟨fun _ f args M K h => h.elim, fun f args M K h => h.elim⟩

theorem opK_noCall_mem {E : Env} {o : Oper} {ev : Operand → Option SV} {M : Mem} {K : SV → Prop} (hp : plainOp o.op = true) (h : opK E noCall o ev M (fun v _ => K v)) : opK E noCall o ev M (fun v M' => M' = M ∧ K v) := by
  have : opK E noCall o ev M (fun v _ => M = M ∧ K v) := by
    obtain ⟨v, h1, h2⟩ := det_opK hp K h
    exact h2 (fun v => M = M ∧ K v) ⟨rfl, h1⟩
  unfold opK at this ⊢
  split at this <;> first
    | exact this
    | exact this.elim
    | (rename_i hop; simp [hop, plainOp, quiet] at hp; done)

theorem stepK_noCall_mem {E : Env} {o : Oper} {env : List (Tmp × SV)} {loc : List (Tmp × Sl)} {ch : List (Tmp × Bool)} {M : Mem} {K : SV → Prop} (hp : plainOp o.op = true)
    (h : stepK E noCall o env loc ch M (fun v _ => K v)) : stepK E noCall o env loc ch M (fun v M' => M' = M ∧ K v) := by
  have h2 : stepK E noCall o env loc ch M (fun v _ => M = M ∧ K v) := by
    have hd : ∀ (F : SV → Prop), stepD E o env loc ch M F → ∃ v, F v ∧ ∀ K', K' v → stepD E o env loc ch M K' := fun F hF => det_stepD F hF
    have hnc : ∀ c, o.op ≠ .call c := by rintro c e; simp [e, plainOp, quiet] at hp
    have conv : ∀ F : SV → Prop, stepD E o env loc ch M F ↔ stepK E noCall o env loc ch M (fun v _ => F v) := by
      intro F
      unfold stepD
      split
      · rename_i c e; exact (hnc c e).elim
      · rw [hp]; exact Iff.rfl
    obtain ⟨v, h1, h2⟩ := hd K ((conv K).2 h)
    exact (conv _).1 (h2 (fun v => M = M ∧ K v) ⟨rfl, h1⟩)
  unfold stepK at h2 ⊢
  split at h2
  · exact h2
  · obtain ⟨v, h4, h5⟩ := det_opK hp _ h2
    exact opK_noCall_mem hp (h5 K h4.2)

theorem stepD_sound {E : Env} (hE : EnvOK E) (hgam : GamOK E) {S : Sig} {M : Mem} {w : World} (hG : Glob E S) (h : Rep S M w) {o : Oper} {a : Act} {env : List (Tmp × SV)} {loc : List (Tmp × Sl)} {ch : List (Tmp × Bool)}
    (hF : FrL S env loc a) (hc : ChH ch a) {K : SV → Prop} (hk : stepD E o env loc ch M K) {next : Act → World → Prop} {Q : Exit → Act → World → Prop}
    (hn : ∀ S' sv v w', Ext S S' → Rep S' M w' → K sv → (o.dst = none ∨ R S' sv v) → next (a.put o.dst v) w') : o.wp E.P a w next Q := by
  have hev : ∀ x sv, evO E.glob env loc ch x = some sv → R S sv (a.eval x) := fun x sv hx => evO_sound hG hF hc hx
  unfold stepD at hk
  split at hk
  · rename_i c hop
    unfold callD at hk
    split at hk
    · exact hk.elim
    · rename_i args hargs
      have hA := evAll_R hev _ _ hargs
      split at hk
      · rename_i f hcal
        split at hk
        · rename_i g hf
          split at hk
          · rename_i pre f' hgm
            split at hk
            · rename_i r hr
              obtain ⟨h1, h2, h3⟩ := onB_out hk
              simp only [Bool.and_eq_true] at h1
              obtain ⟨hg, hcl⟩ := h1
              have hfv := R_fn (hev _ _ hf)
              have hcon : conK (.pure pre f') args M (fun v M' => M' = M ∧ K v) := by
                simp only [conK, hr]; exact onB_in hcl ⟨h2, trivial, h3⟩
              refine wp_calls (vs := c.args.map a.eval) (S := S) (K := fun v M' => M' = M ∧ K v) ?_ (conK_sound (hgam g _ hgm) hcon hG h (by simpa using hA)) ?_
              · simp [execOp, hop, resolve, hcal, hfv, Deferred.ofValue, invoke, run_callFunc hg]
              · intro S' sv M' v w' e1 e2 e3 e4
                obtain ⟨rfl, e3⟩ := e3
                exact hn S' sv v w' e1 e2 e3 e4
            · exact hk.elim
          · exact hk.elim
        · exact hk.elim
      · exact hk.elim
      · rename_i b hcal
        obtain ⟨sv, v, k1, k2, k3⟩ := builtinK_sound (ty := o.type) (cs := c.args.map fun | .const _ => true | _ => false) (vs := c.args.map a.eval) hk h (by simpa using hA)
        unfold Oper.wp
        have : (execOp a.eval o).run E.P w = .ok (.value v) w := by
          simp only [execOp, hop, resolve, hcal, Sem.run_bind, Sem.run_pure, Result.andThen_ok, invoke]
          exact k2
        rw [this, Oper.upon_value]
        exact hn S sv v w (Ext.refl S) h k1 (.inr k3)
  · obtain ⟨hp, hk⟩ := onB_out hk
    refine stepK_sound hE noCall_ok hG h hF hc (stepK_noCall_mem hp hk) ?_
    intro S' sv M' v w' e1 e2 e3 e4
    obtain ⟨rfl, e3⟩ := e3
    exact hn S' sv v w' e1 e2 e3 e4

/-! ### The trace by places -/
def locT : List Ent → List (Tmp × Sl) → Nat → List (Tmp × Sl)
  | _, l, 0 => l
  | [], l, _ + 1 => l
  | e :: tr, l, j + 1 => locT tr (e.sl.toList ++ l) j
def Mat : List Ent → Mem → Nat → Mem
  | _, M, 0 => M
  | [], M, _ + 1 => M
  | e :: tr, _, j + 1 => Mat tr e.M' j

section
variable {E : Env} {call : CallT} {nt : Nat} {ops : Array Oper} {env : List (Tmp × SV)}

theorem Trace.at : ∀ {rest : List Oper} {loc : List (Tmp × Sl)} {M : Mem} {tr : List Ent} {locF : List (Tmp × Sl)} {MF : Mem}, Trace E call nt ops env rest loc M tr locF MF →
    tr.length = rest.length ∧ locF = locT tr loc rest.length ∧ MF = Mat tr M rest.length ∧
    ∀ (j : Nat) o, rest[j]? = some o → ∃ e, tr[j]? = some e ∧ EntOK E call nt ops env o (locT tr loc j) e ∧ e.M = Mat tr M j ∧ Mat tr M (j + 1) = e.M' ∧ locT tr loc (j + 1) = e.sl.toList ++ locT tr loc j ∧ (∀ d s, e.sl = some (d, s) → fresh (locT tr loc j) d = true)
  | _, _, _, _, _, _, .nil loc M => ⟨rfl, rfl, rfl, fun j o h => by simp at h⟩
  | _, _, _, _, _, _, .cons o rest loc e tr locF MF h hf ht => by
    obtain ⟨h1, h2, h3, h4⟩ := Trace.at ht
    refine ⟨by simp [h1], by simpa [locT] using h2, by simpa [Mat] using h3, fun j o' ho => ?_⟩
    cases j with
    | zero =>
      simp at ho; subst ho
      refine ⟨e, rfl, h, rfl, ?_, ?_, hf⟩
      · cases tr <;> simp [Mat]
      · cases tr <;> simp [locT]
    | succ j =>
      simp at ho
      obtain ⟨e', k1, k2, k3, k4, k5, k6⟩ := h4 j o' ho
      exact ⟨e', by simpa using k1, by simpa [locT] using k2, by simpa [Mat] using k3, by simpa [Mat] using k4, by simpa [locT] using k5, by simpa [locT] using k6⟩

theorem feet_mem : ∀ {tr : List Ent} {j i : Nat} {e : Ent} {x : Nat × List PStep}, tr[i]? = some e → e.ft = some x → (j + i, x.1, x.2) ∈ feet tr j
  | [], j, i, e, x, h, _ => by simp at h
  | e' :: l, j, 0, e, x, h, hx => by
    simp at h; subst h
    simp [feet, hx]
  | e' :: l, j, i + 1, e, x, h, hx => by
    simp at h
    have := feet_mem (j := j + 1) h hx
    simp only [feet, List.mem_append]
    right; rw [show j + (i + 1) = j + 1 + i by omega]; exact this
theorem sts_mem : ∀ {tr : List Ent} {j i : Nat} {e : Ent} {x : Nat × List PStep}, tr[i]? = some e → e.st = some x → (j + i, x.1, x.2) ∈ sts tr j
  | [], j, i, e, x, h, _ => by simp at h
  | e' :: l, j, 0, e, x, h, hx => by
    simp at h; subst h
    simp [sts, hx]
  | e' :: l, j, i + 1, e, x, h, hx => by
    simp at h
    have := sts_mem (j := j + 1) h hx
    simp only [sts, List.mem_append]
    right; rw [show j + (i + 1) = j + 1 + i by omega]; exact this
theorem cls_mem : ∀ {tr : List Ent} {j i : Nat} {e : Ent}, tr[i]? = some e → e.im = true → (j + i, e.M, e.M') ∈ cls tr j
  | [], j, i, e, h, _ => by simp at h
  | e' :: l, j, 0, e, h, hx => by
    simp at h; subst h
    simp [cls, hx]
  | e' :: l, j, i + 1, e, h, hx => by
    simp at h
    have := cls_mem (j := j + 1) h hx
    simp only [cls, List.mem_append]
    right; rw [show j + (i + 1) = j + 1 + i by omega]; exact this
end

/-- All that a trace of a whole region tells, place by place. -/
structure Tel (E : Env) (call : CallT) (nt : Nat) (ops : Array Oper) (env : List (Tmp × SV)) (tr : List Ent) (M0 : Mem) : Prop where
  dr : Dr E ops
  at_ : ∀ (j : Nat) o, ops[j]? = some o → ∃ e, tr[j]? = some e ∧ EntOK E call nt ops env o (locT tr [] j) e ∧ e.M = Mat tr M0 j ∧ Mat tr M0 (j + 1) = e.M' ∧ locT tr [] (j + 1) = e.sl.toList ++ locT tr [] j ∧ (∀ d s, e.sl = some (d, s) → fresh (locT tr [] j) d = true)
  ap : ∀ (i r : Nat) (ei er : Ent) b p c q, tr[i]? = some ei → tr[r]? = some er → ei.ft = some (b, p) → er.st = some (c, q) → anc ops i r = true ∨ anc ops r i = true ∨ (!Nat.beq b c || diverge p q) = true
  im : ∀ (i r : Nat) (ei er : Ent) b p, tr[i]? = some ei → tr[r]? = some er → ei.ft = some (b, p) → er.im = true → anc ops i r = true ∨ anc ops r i = true ∨ memG er.M b p = memG er.M' b p

section
variable {E : Env} {call : CallT} {nt : Nat} {ops : Array Oper} {env : List (Tmp × SV)} {tr : List Ent} {M0 : Mem}

/-- What place p writes. -/
def slAt (tr : List Ent) (p : Nat) : Option (Tmp × Sl) := (tr[p]?).bind (·.sl)

theorem Tel.dst (h : Tel E call nt ops env tr M0) {p : Nat} {t : Tmp} {s : Sl} (hs : slAt tr p = some (t, s)) (hp : p < ops.size) : ∃ o, ops[p]? = some o ∧ o.dst = some t := by
  obtain ⟨e, h1, h2, _⟩ := h.at_ p _ (Array.getElem?_eq_getElem hp)
  refine ⟨_, Array.getElem?_eq_getElem hp, ?_⟩
  unfold slAt at hs
  rw [h1] at hs
  simp at hs
  cases h2 with
  | store T x y b p v t t' hop hg hd hs' => rw [hs'] at hs; simp at hs
  | born v d hbv hg hd hdn hs' => rw [hs'] at hs; simp at hs; exact hs.1 ▸ hd
  | imp v him hdm hg hs' => rw [hs'] at hs; simp at hs; obtain ⟨a, h1, h2, _⟩ := hs; rw [h1, h2]
  | plain v hns hg hs' => rw [hs'] at hs; simp at hs; obtain ⟨a, h1, h2, _⟩ := hs; rw [h1, h2]
  | guarded v g w s hns hg hgs hl hs' => rw [hs'] at hs; simp at hs; obtain ⟨a, h1, h2, _⟩ := hs; rw [h1, h2]

theorem Tel.text (h : Tel E call nt ops env tr M0) : ∀ (j : Nat), j ≤ ops.size → (∀ t s, lookL (locT tr [] j) t = some s → ∃ p, p < j ∧ slAt tr p = some (t, s)) ∧ (∀ p t s, p < j → slAt tr p = some (t, s) → lookL (locT tr [] j) t = some s)
  | 0, _ => ⟨fun t s hl => by cases tr <;> simp [locT, lookL] at hl, fun p t s hp => by omega⟩
  | j + 1, hj => by
    obtain ⟨h1, h2⟩ := h.text j (by omega)
    obtain ⟨e, k1, k2, k3, k4, k5, k6⟩ := h.at_ j _ (Array.getElem?_eq_getElem (by omega : j < ops.size))
    rw [k5]
    have hsl : slAt tr j = e.sl := by unfold slAt; rw [k1]; rfl
    cases he : e.sl with
    | none =>
      simp only [Option.toList_none, List.nil_append]
      refine ⟨fun t s hl => ?_, fun p t s hp hs => ?_⟩
      · obtain ⟨p, hp, hs⟩ := h1 t s hl; exact ⟨p, by omega, hs⟩
      · rcases Nat.lt_or_ge p j with hq | hq
        · exact h2 p t s hq hs
        · have : p = j := by omega
          subst this; rw [hsl, he] at hs; simp at hs
    | some x =>
      obtain ⟨d, s0⟩ := x
      simp only [Option.toList_some, List.singleton_append]
      refine ⟨fun t s hl => ?_, fun p t s hp hs => ?_⟩
      · by_cases e1 : d = t
        · subst e1; rw [lookL_cons_eq] at hl; simp at hl; subst hl
          exact ⟨j, by omega, by rw [hsl, he]⟩
        · rw [lookL_cons_ne e1] at hl
          obtain ⟨p, hp, hs⟩ := h1 t s hl; exact ⟨p, by omega, hs⟩
      · rcases Nat.lt_or_ge p j with hq | hq
        · have := h2 p t s hq hs
          have hf := fresh_none (k6 d s0 he)
          rw [lookL_cons_ne (by rintro rfl; rw [this] at hf; simp at hf)]; exact this
        · have : p = j := by omega
          subst this; rw [hsl, he] at hs; simp at hs
          obtain ⟨rfl, rfl⟩ := hs
          exact lookL_cons_eq

/-- The memory between two stores that are apart from a place. -/
theorem Tel.range (h : Tel E call nt ops env tr M0) {b : Nat} {p : List PStep} : ∀ (n i : Nat), i + n ≤ ops.size → (∀ r er c q, i ≤ r → r < i + n → tr[r]? = some er → er.st = some (c, q) → (!Nat.beq b c || diverge p q) = true) →
    (∀ r er, i ≤ r → r < i + n → tr[r]? = some er → er.im = true → memG er.M b p = memG er.M' b p) → memG (Mat tr M0 (i + n)) b p = memG (Mat tr M0 i) b p
  | 0, i, _, _, _ => rfl
  | n + 1, i, hn, ha, hm => by
    have ih := h.range n i (by omega) (fun r er c q h1 h2 => ha r er c q h1 (by omega)) (fun r er h1 h2 => hm r er h1 (by omega))
    obtain ⟨e, k1, k2, k3, k4, k5, k6⟩ := h.at_ (i + n) _ (Array.getElem?_eq_getElem (by omega : i + n < ops.size))
    rw [show i + (n + 1) = i + n + 1 by omega, k4, ← ih, ← k3]
    cases k2 with
    | store T x y c q v t t' hop hg hd hs' hx hy ht hp hz hM hst =>
      rw [hM]
      exact memG_apart (ha (i + n) e c q (by omega) (by omega) k1 hst) ht hp
    | born v d hbv hg hd hdn hs' hM hst =>
      rw [hM]
      have := ha (i + n) e _ _ (by omega) (by omega) k1 hst
      exact memG_born (by cases p <;> simpa [diverge] using this)
    | imp v him hdm => exact (hm (i + n) e (by omega) (by omega) k1 hdm).symm
    | plain v hns hg hs' hM => rw [hM]
    | guarded v g w s hns hg hgs hl hs' hM => rw [hM]

theorem Tel.same (h : Tel E call nt ops env tr M0) : ∀ (n i : Nat), i + n ≤ ops.size → (∀ r, i ≤ r → r < i + n → ∀ o, ops[r]? = some o → isMem E o.op = false) → Mat tr M0 (i + n) = Mat tr M0 i
  | 0, i, _, _ => rfl
  | n + 1, i, hn, ha => by
    have ih := h.same n i (by omega) (fun r h1 h2 => ha r h1 (by omega))
    obtain ⟨e, k1, k2, k3, k4, k5, k6⟩ := h.at_ (i + n) _ (Array.getElem?_eq_getElem (by omega : i + n < ops.size))
    rw [show i + (n + 1) = i + n + 1 by omega, k4, ← ih, ← k3]
    have hns := ha (i + n) (by omega) (by omega) _ (Array.getElem?_eq_getElem (by omega : i + n < ops.size))
    cases k2 with
    | store T x y c q v t t' hop => rw [hop] at hns; simp [isMem, isStore] at hns
    | born v d hbv => rw [mem_store (bornV_store hbv)] at hns; simp at hns
    | imp v him => unfold isMem at hns; rw [him] at hns; simp at hns
    | plain v hns hg hs' hM => rw [hM]
    | guarded v g w s hns hg hgs hl hs' hM => rw [hM]
end

/-! ### States on the way -/
structure Inv (E : Env) (ops : Array Oper) (tr : List Ent) (D : Array Bool) (L : List (Tmp × Sl)) (k : Nat) : Prop where
  sz : D.size = ops.size
  down : ∀ i j, D.getD j false = true → anc ops i j = true → D.getD i false = true
  il : ∀ p t s, D.getD p false = true → slAt tr p = some (t, s) → lookL L t = some s
  in_ : ∀ t s, lookL L t = some s → ∃ p, D.getD p false = true ∧ slAt tr p = some (t, s)
  kle : k ≤ ops.size
  lo : ∀ (i : Nat) o, ops[i]? = some o → isMem E o.op = true → i < k → D.getD i false = true
  hi : ∀ (i : Nat) o, ops[i]? = some o → isMem E o.op = true → k ≤ i → D.getD i false = false

theorem getD_lt {D : Array Bool} {i : Nat} (h : D.getD i false = true) : i < D.size := by
  refine Classical.byContradiction fun hn => ?_
  rw [Array.getD_eq_getD_getElem?, Array.getElem?_eq_none (by omega)] at h; simp at h

section
variable {E : Env} {call : CallT} {nt : Nat} {ops : Array Oper} {env : List (Tmp × SV)} {tr : List Ent} {M0 : Mem} {D : Array Bool} {L : List (Tmp × Sl)} {k : Nat}

theorem ready_out (hT : Tel E call nt ops env tr M0) (hI : Inv E ops tr D L k) {i : Nat} (h : i ∈ Region.ready .any ops D) : ∃ o, ops[i]? = some o ∧ i < ops.size ∧ D.getD i false = false ∧ ∀ p, anc ops p i = true → D.getD p false = true ∧ p < i := by
  obtain ⟨h1, o, h2, h3⟩ := mem_ready.1 h
  have hlt : i < ops.size := (Array.getElem?_eq_some_iff.1 h2).1
  have hm := hT.dr.lt i hlt
  refine ⟨o, h2, hlt, ?_, fun p hp => ⟨?_, anc_lt hm hp⟩⟩
  · rw [Array.getD_eq_getD_getElem?] at h1 ⊢
    cases e : D[i]? with
    | none => rfl
    | some v => rw [e] at h1; simpa using h1
  · obtain ⟨e, he, hb, hpe⟩ := (anc_iff h2 hm).1 hp
    have hD := h3 e (by simpa using he) hb
    rcases hpe with rfl | hpe
    · exact hD
    · exact hI.down _ _ hD hpe

/-- A slot whose writers are all done and lie ahead in the text reads as in the text. -/
theorem agree (hT : Tel E call nt ops env tr M0) (hI : Inv E ops tr D L k) {i : Nat} (hi : i ≤ ops.size) {t : Tmp} (h : ∀ (p : Nat) o, ops[p]? = some o → o.dst = some t → D.getD p false = true ∧ p < i) : lookL L t = lookL (locT tr [] i) t := by
  obtain ⟨h1, h2⟩ := hT.text i hi
  cases ht : lookL (locT tr [] i) t with
  | some s =>
    obtain ⟨p, hp, hs⟩ := h1 t s ht
    obtain ⟨o, ho, hd⟩ := hT.dst hs (by omega)
    exact hI.il p t s (h p o ho hd).1 hs
  | none =>
    cases hl : lookL L t with
    | none => rfl
    | some s =>
      obtain ⟨p, hp, hs⟩ := hI.in_ t s hl
      have hlt : p < ops.size := by rw [← hI.sz]; exact getD_lt hp
      obtain ⟨o, ho, hd⟩ := hT.dst hs hlt
      rw [h2 p t s (h p o ho hd).2 hs] at ht; simp at ht

theorem chain_agree (hT : Tel E call nt ops env tr M0) (hI : Inv E ops tr D L k) {i : Nat} (hi : i ≤ ops.size) : ∀ (n : Nat) (s : Tmp), (∀ (p : Nat) o, ops[p]? = some o → o.dst = some s → D.getD p false = true ∧ p < i) →
    chain L n s = chain (locT tr [] i) n s ∧ ∀ s' w', (s', w') ∈ chain (locT tr [] i) n s → lookL L s' = lookL (locT tr [] i) s'
  | 0, s, h => ⟨rfl, fun s' w' hm => by simp [chain] at hm⟩
  | n + 1, s, h => by
    have ha := agree hT hI hi h
    simp only [chain]
    rw [ha]
    cases ht : lookL (locT tr [] i) s with
    | none => exact ⟨rfl, fun s' w' hm => by simp at hm⟩
    | some sl =>
      cases sl with
      | v x => exact ⟨rfl, fun s' w' hm => by simp at hm⟩
      | opt s' w' x =>
        obtain ⟨p, hp, hs⟩ := (hT.text i hi).1 s _ ht
        obtain ⟨o, ho, hd⟩ := hT.dst hs (by omega)
        obtain ⟨hpD, _⟩ := h p o ho hd
        obtain ⟨e, k1, k2, _⟩ := hT.at_ p o ho
        have hse : e.sl = some (s, .opt s' w' x) := by unfold slAt at hs; rw [k1] at hs; exact hs
        have hg : ∃ g, o.guard = some (g, w') ∧ (ops[g]?).bind (·.dst) = some s' := by
          cases k2 with
          | store T x y b p v t t' hop hg hd hs' => rw [hs'] at hse; simp at hse
          | born v d hbv hg hd hdn hs' => rw [hs'] at hse; simp at hse
          | imp v him hdm hg hs' => rw [hs'] at hse; simp at hse
          | plain v hns hg hs' => rw [hs'] at hse; simp at hse
          | guarded v g w s hns hg hgs hl hs' =>
            rw [hs'] at hse; simp at hse
            obtain ⟨a, _, rfl, rfl, rfl, rfl⟩ := hse
            exact ⟨g, hg, hgs⟩
        obtain ⟨g, hg, hgs⟩ := hg
        have hgo : ∃ og, ops[g]? = some og ∧ og.dst = some s' := by
          cases e : ops[g]? with
          | none => simp [e] at hgs
          | some og => rw [e] at hgs; exact ⟨og, rfl, by simpa using hgs⟩
        obtain ⟨og, hog, hod⟩ := hgo
        have hanc := hT.dr.dep g p og o s' hog ho hod (.inr ⟨g, w', hg, rfl⟩)
        have hgp : g < p := anc_lt (hT.dr.lt p (by omega)) hanc
        have hA : ∀ (q : Nat) o', ops[q]? = some o' → o'.dst = some s' → D.getD q false = true ∧ q < i := by
          intro q o' hq hdq
          have : q = g := hT.dr.uniq q g o' og s' hq hog hdq hod
          subst this
          exact ⟨hI.down _ _ hpD hanc, by omega⟩
        obtain ⟨c1, c2⟩ := chain_agree hT hI hi n s' hA
        refine ⟨by dsimp only; rw [c1], fun s2 w2 hm => ?_⟩
        dsimp only at hm
        rcases List.mem_cons.1 hm with e | hm
        · simp at e; obtain ⟨rfl, rfl⟩ := e; exact agree hT hI hi hA
        · exact c2 s2 w2 hm

theorem guardB_congr {env : List (Tmp × SV)} {L L' : List (Tmp × Sl)} : ∀ (ch : List (Tmp × Bool)), (∀ s w, (s, w) ∈ ch → lookL L s = lookL L' s) → guardB env L ch = guardB env L' ch
  | [], _ => rfl
  | (s, w) :: l, h => by
    simp only [guardB]
    rw [evT_congr (h s w (by simp)), guardB_congr l fun s' w' hm => h s' w' (by simp [hm])]

theorem FrL.congr {S : Sig} {env : List (Tmp × SV)} {L L' : List (Tmp × Sl)} {a : Act} (h : FrL S env L a) (e : ∀ t, lookL L' t = lookL L t) : FrL S env L' a :=
  ⟨fun t x hl => h.v t x (by rw [← e]; exact hl), fun t s w x hl => h.o1 t s w x (by rw [← e]; exact hl), fun t s w x hl => h.o2 t s w x (by rw [← e]; exact hl),
   fun t s w x hl => by rw [e]; exact h.o3 t s w x (by rw [← e]; exact hl), fun t hl => h.e t (by rw [← e]; exact hl)⟩
end

end Go.Sx

namespace Go.Sx
set_option linter.unusedVariables false
set_option linter.unusedSimpArgs false

theorem fresh_of_none : ∀ {l : List (Tmp × Sl)} {s : Tmp}, lookL l s = none → fresh l s = true
  | [], s, _ => rfl
  | (s', y) :: l, s, he => by
    by_cases hq : s' = s
    · subst hq; rw [lookL_cons_eq] at he; simp at he
    · rw [lookL_cons_ne hq] at he
      have : Nat.beq s' s = false := by
        cases e : Nat.beq s' s with
        | false => rfl
        | true => exact (hq (Nat.eq_of_beq_eq_true e)).elim
      simp only [fresh, this, fresh_of_none he]; rfl

/-- The places not yet done. -/
def cnt (D : Array Bool) : Nat → Nat
  | 0 => 0
  | m + 1 => cnt D m + if D.getD m false = true then 0 else 1

theorem cnt_set_ge {D : Array Bool} {i : Nat} : ∀ (m : Nat), m ≤ i → cnt (D.setIfInBounds i true) m = cnt D m
  | 0, _ => rfl
  | m + 1, h => by simp only [cnt]; rw [cnt_set_ge m (by omega), getD_set_ne false (by omega)]
theorem cnt_set {D : Array Bool} {i : Nat} (hi : i < D.size) (h : D.getD i false = false) : ∀ (m : Nat), i < m → cnt (D.setIfInBounds i true) m + 1 = cnt D m
  | 0, hm => by omega
  | m + 1, hm => by
    simp only [cnt]
    by_cases e : i = m
    · subst e
      have : (D.setIfInBounds i true).getD i false = true := by
        rw [Array.getD_eq_getD_getElem?]; simp [hi]
      rw [this, h, cnt_set_ge i (Nat.le_refl _)]; simp
    · rw [getD_set_ne false e]
      have := cnt_set hi h m (by omega)
      omega
theorem cnt_zero {D : Array Bool} : ∀ (m : Nat), cnt D m = 0 → ∀ j, j < m → D.getD j false = true
  | 0, _, j, hj => by omega
  | m + 1, h, j, hj => by
    simp only [cnt] at h
    by_cases e : D.getD m false = true
    · rcases Nat.lt_or_ge j m with h' | h'
      · exact cnt_zero m (by omega) j h'
      · have : j = m := by omega
        subst this; exact e
    · rw [if_neg e] at h; omega
theorem cnt_le {D : Array Bool} : ∀ (m : Nat), cnt D m ≤ m
  | 0 => Nat.le_refl _
  | m + 1 => by simp only [cnt]; have := cnt_le (D := D) m; split <;> omega

section
variable {E : Env} {call : CallT} {nt : Nat} {ops : Array Oper} {env : List (Tmp × SV)} {tr : List Ent} {M0 : Mem} {D : Array Bool} {L : List (Tmp × Sl)} {k : Nat}

/-- When none is ready, all are done. -/
theorem all_done (hT : Tel E call nt ops env tr M0) (hI : Inv E ops tr D L k) (h : Region.ready .any ops D = []) : ∀ (n j : Nat), j < n → j < ops.size → D.getD j false = true
  | 0, j, hj, _ => by omega
  | n + 1, j, hj, hl => by
    rcases Nat.lt_or_ge j n with h' | h'
    · exact all_done hT hI h n j h' hl
    · have e : j = n := by omega
      subst e
      refine Classical.byContradiction fun hn => ?_
      have ho : ops[j]? = some ops[j] := Array.getElem?_eq_getElem hl
      have hm := hT.dr.lt j hl
      have : j ∈ Region.ready .any ops D := by
        refine mem_ready.2 ⟨?_, _, ho, fun e he hb => ?_⟩
        · have hs : j < D.size := by rw [hI.sz]; exact hl
          rw [Array.getD_eq_getD_getElem?, Array.getElem?_eq_getElem hs] at hn ⊢
          simpa using hn
        · have ha : anc ops e.on j = true := (anc_iff ho hm).2 ⟨e, by simpa using he, hb, .inl rfl⟩
          have hlt := anc_lt hm ha
          exact all_done hT hI h j e.on hlt (by omega)
      rw [h] at this; simp at this

theorem Inv.step (hT : Tel E call nt ops env tr M0) (hI : Inv E ops tr D L k) {i : Nat} {o : Oper} (ho : ops[i]? = some o) (hD : D.getD i false = false) (ha : ∀ p, anc ops p i = true → D.getD p false = true) {k' : Nat} (hk : k' ≤ ops.size)
    (hlo : ∀ (r : Nat) o, ops[r]? = some o → isMem E o.op = true → r < k' → D.getD r false = true ∨ r = i)
    (hhi : ∀ (r : Nat) o, ops[r]? = some o → isMem E o.op = true → k' ≤ r → D.getD r false = false ∧ r ≠ i) :
    Inv E ops tr (D.setIfInBounds i true) ((slAt tr i).toList ++ L) k' := by
  have hlt : i < ops.size := (Array.getElem?_eq_some_iff.1 ho).1
  have hii : (D.setIfInBounds i true).getD i false = true := by
    rw [Array.getD_eq_getD_getElem?]; simp [hI.sz, hlt]
  have hin : ∀ j, (D.setIfInBounds i true).getD j false = true → j = i ∨ D.getD j false = true := by
    intro j hj
    by_cases e : i = j
    · exact .inl e.symm
    · rw [getD_set_ne false e] at hj; exact .inr hj
  have hup : ∀ j, D.getD j false = true → (D.setIfInBounds i true).getD j false = true := fun j hj => getD_set_true hj
  have huniq : ∀ p t s s', slAt tr i = some (t, s) → slAt tr p = some (t, s') → D.getD p false = true → False := by
    intro p t s s' h1 h2 hp
    obtain ⟨o1, a1, b1⟩ := hT.dst h1 hlt
    obtain ⟨o2, a2, b2⟩ := hT.dst h2 (by rw [← hI.sz]; exact getD_lt hp)
    have := hT.dr.uniq i p o1 o2 t a1 a2 b1 b2
    subst this
    rw [hD] at hp; simp at hp
  refine ⟨by simp [hI.sz], ?_, ?_, ?_, hk, ?_, ?_⟩
  · intro p j hj hp
    rcases hin j hj with rfl | hj
    · exact hup _ (ha p hp)
    · exact hup _ (hI.down p j hj hp)
  · intro p t s hp hs
    rcases hin p hp with rfl | hp
    · rw [hs]; exact lookL_cons_eq
    · have h1 := hI.il p t s hp hs
      cases e : slAt tr i with
      | none => simpa using h1
      | some x =>
        obtain ⟨d, s0⟩ := x
        show lookL ((d, s0) :: L) t = _
        rw [lookL_cons_ne]
        · exact h1
        · rintro rfl; exact huniq p d s0 s e hs hp
  · intro t s hl
    cases e : slAt tr i with
    | none =>
      rw [e] at hl
      obtain ⟨p, h1, h2⟩ := hI.in_ t s (by simpa using hl)
      exact ⟨p, hup _ h1, h2⟩
    | some x =>
      obtain ⟨d, s0⟩ := x
      rw [e] at hl
      change lookL ((d, s0) :: L) t = _ at hl
      by_cases q : d = t
      · subst q; rw [lookL_cons_eq] at hl; simp at hl; subst hl
        exact ⟨i, hii, e⟩
      · rw [lookL_cons_ne q] at hl
        obtain ⟨p, h1, h2⟩ := hI.in_ t s hl
        exact ⟨p, hup _ h1, h2⟩
  · intro r o' hr hs hlt'
    rcases hlo r o' hr hs hlt' with h | h
    · exact hup _ h
    · subst h; exact hii
  · intro r o' hr hs hge
    obtain ⟨h1, h2⟩ := hhi r o' hr hs hge
    rw [getD_set_ne false (Ne.symm h2)]; exact h1

/-- A place whose reads lie apart from what is stored out of turn reads as in the text. -/
theorem mem_agree (hT : Tel E call nt ops env tr M0) (hI : Inv E ops tr D L k) {i : Nat} (hi : i < ops.size) (hD : D.getD i false = false) (ha : ∀ p, anc ops p i = true → D.getD p false = true ∧ p < i)
    {e : Ent} (he : tr[i]? = some e) {b : Nat} {p : List PStep} (hf : e.ft = some (b, p)) : memG (Mat tr M0 k) b p = memG (Mat tr M0 i) b p := by
  have hst : ∀ (r : Nat) er c q, tr[r]? = some er → er.st = some (c, q) → r < ops.size → ∃ o, ops[r]? = some o ∧ isMem E o.op = true := by
    intro r er c q h1 h2 hr
    obtain ⟨e', k1, k2, _⟩ := hT.at_ r _ (Array.getElem?_eq_getElem hr)
    rw [h1] at k1; simp at k1; subst k1
    refine ⟨_, Array.getElem?_eq_getElem hr, ?_⟩
    cases k2 with
    | store T x y b p v t t' hop => exact mem_store (by rw [hop]; rfl)
    | born v d hbv => exact mem_store (bornV_store hbv)
    | imp v him hdm hg hs' hst => rw [hst] at h2; simp at h2
    | plain v hns hg hs' hM hst => rw [hst] at h2; simp at h2
    | guarded v g w s hns hg hgs hl hs' hM hst => rw [hst] at h2; simp at h2
  have him : ∀ (r : Nat) er, tr[r]? = some er → er.im = true → r < ops.size → ∃ o, ops[r]? = some o ∧ isMem E o.op = true := by
    intro r er h1 h2 hr
    obtain ⟨e', k1, k2, _⟩ := hT.at_ r _ (Array.getElem?_eq_getElem hr)
    rw [h1] at k1; simp at k1; subst k1
    refine ⟨_, Array.getElem?_eq_getElem hr, ?_⟩
    cases k2 with
    | store T x y b p v t t' hop => exact mem_store (by rw [hop]; rfl)
    | born v d hbv => exact mem_store (bornV_store hbv)
    | imp v him => unfold isMem; rw [him]; simp
    | plain v hns hg hs' hM hst hd hft hr hnm => rw [hnm] at h2; simp at h2
    | guarded v g w s hns hg hgs hl hs' hM hst hd hr hnm => rw [hnm] at h2; simp at h2
  rcases Nat.le_total k i with hki | hki
  · have := hT.range (b := b) (p := p) (i - k) k (by omega) (fun r er c q h1 h2 h3 h4 => ?_) (fun r er h1 h2 h3 h4 => ?_)
    · rw [show k + (i - k) = i by omega] at this; exact this.symm
    · obtain ⟨o, ho, hs⟩ := hst r er c q h3 h4 (by omega)
      have hr := hI.hi r o ho hs h1
      rcases hT.ap i r e er b p c q he h3 hf h4 with h | h | h
      · have := anc_lt (hT.dr.lt r (by omega)) h; omega
      · rw [(ha r h).1] at hr; simp at hr
      · exact h
    · obtain ⟨o, ho, hs⟩ := him r er h3 h4 (by omega)
      have hr := hI.hi r o ho hs h1
      rcases hT.im i r e er b p he h3 hf h4 with h | h | h
      · have := anc_lt (hT.dr.lt r (by omega)) h; omega
      · rw [(ha r h).1] at hr; simp at hr
      · exact h
  · have := hT.range (b := b) (p := p) (k - i) i (by have := hI.kle; omega) (fun r er c q h1 h2 h3 h4 => ?_) (fun r er h1 h2 h3 h4 => ?_)
    · rw [show i + (k - i) = k by omega] at this; exact this
    · have hkl := hI.kle
      obtain ⟨o, ho, hs⟩ := hst r er c q h3 h4 (by omega)
      have hr := hI.lo r o ho hs (by omega)
      rcases hT.ap i r e er b p c q he h3 hf h4 with h | h | h
      · have := hI.down _ _ hr h
        rw [hD] at this; simp at this
      · have := (ha r h).2; omega
      · exact h
    · have hkl := hI.kle
      obtain ⟨o, ho, hs⟩ := him r er h3 h4 (by omega)
      have hr := hI.lo r o ho hs (by omega)
      rcases hT.im i r e er b p he h3 hf h4 with h | h | h
      · have := hI.down _ _ hr h
        rw [hD] at this; simp at this
      · have := (ha r h).2; omega
      · exact h

/-- Such a call looks at its operands alone. -/
theorem stepK_imp_congr {E : Env} {call : CallT} {o : Oper} {env : List (Tmp × SV)} {loc loc' : List (Tmp × Sl)} {M : Mem} {K : SV → Mem → Prop} (hi : isImp E o.op = true) (he : ∀ x ∈ o.op.operands, evO E.glob env loc' [] x = evO E.glob env loc [] x)
    (h : stepK E call o env loc [] M K) : stepK E call o env loc' [] M K := by
  have hno : ∃ c, o.op = .call c := by
    unfold isImp at hi
    split at hi
    · exact ⟨_, by assumption⟩
    · simp at hi
  obtain ⟨c, hop⟩ := hno
  have hst : ∀ l, stepK E call o env l [] M K = callK E call c (evO E.glob env l []) M K := by
    intro l; unfold stepK opK; rw [hop]
  rw [hst] at h ⊢
  rw [hop] at he
  have hx : ∀ x ∈ c.args.toList, evO E.glob env loc' [] x = evO E.glob env loc [] x := fun x hx => he x (by
    simp only [Op.operands, Call.operands, Array.mem_append]
    exact .inr (by simpa using hx))
  unfold callK at h ⊢
  rw [evAll_congr _ hx]
  split at h
  · exact h.elim
  · split at h
    · rename_i f hcal
      rw [he f (by simp [Op.operands, Call.operands, hcal])]
      exact h
    · rename_i r name hcal
      rw [he r (by simp [Op.operands, Call.operands, hcal])]
      exact h
    · exact h

theorem any_sound (hE : EnvOK E) (hgam : GamOK E) (hcall : CallOK E call) (hT : Tel E call nt ops env tr M0) {Q : Exit → Act → World → Prop} : ∀ (n : Nat) (D : Array Bool) (L : List (Tmp × Sl)) (k : Nat) (S : Sig) (a : Act) (w : World),
    cnt D ops.size ≤ n → Inv E ops tr D L k → Glob E S → Rep S (Mat tr M0 k) w → FrL S env L a → a.tmps.size = nt → a.defers = [] →
    (∀ S' a' w', Ext S S' → Rep S' (Mat tr M0 ops.size) w' → FrL S' env (locT tr [] ops.size) a' → a'.tmps.size = nt → a'.defers = [] → Q .normal a' w') → wpAny E.P .any ops Q n D a w := by
  have done : ∀ (D : Array Bool) (L : List (Tmp × Sl)) (k : Nat) (S : Sig) (a : Act) (w : World), Inv E ops tr D L k → Rep S (Mat tr M0 k) w → FrL S env L a → a.tmps.size = nt → a.defers = [] →
      (∀ S' a' w', Ext S S' → Rep S' (Mat tr M0 ops.size) w' → FrL S' env (locT tr [] ops.size) a' → a'.tmps.size = nt → a'.defers = [] → Q .normal a' w') → (∀ j, j < ops.size → D.getD j false = true) → Q .normal a w := by
    intro D L k S a w hI hR hF hz hd hQ hall
    refine hQ S a w (Ext.refl S) ?_ ?_ hz hd
    · have := hT.same (ops.size - k) k (by have := hI.kle; omega) (fun r h1 h2 o ho => ?_)
      · rw [show k + (ops.size - k) = ops.size by have := hI.kle; omega] at this
        rw [this]; exact hR
      · cases hs : isMem E o.op with
        | false => rfl
        | true =>
          have := hI.hi r o ho hs h1
          rw [hall r (Array.getElem?_eq_some_iff.1 ho).1] at this; simp at this
    · refine hF.congr fun t => (agree hT hI (Nat.le_refl _) fun p o ho hdst => ?_).symm
      have hp : p < ops.size := (Array.getElem?_eq_some_iff.1 ho).1
      exact ⟨hall p hp, hp⟩
  intro n
  induction n with
  | zero =>
    intro D L k S a w hc hI hG hR hF hz hd hQ
    have hall := cnt_zero ops.size (by omega : cnt D ops.size = 0)
    refine ⟨?_, done D L k S a w hI hR hF hz hd hQ hall⟩
    cases hr : Region.ready .any ops D with
    | nil => rfl
    | cons i l =>
      have : i ∈ Region.ready .any ops D := by rw [hr]; simp
      obtain ⟨o, _, hi, hD, _⟩ := ready_out hT hI this
      rw [hall i hi] at hD; simp at hD
  | succ n ih =>
    intro D L k S a w hc hI hG hR hF hz hd hQ
    refine ⟨fun hr => done D L k S a w hI hR hF hz hd hQ (fun j hj => all_done hT hI hr _ j (Nat.lt_succ_self j) hj), fun i hi => ?_⟩
    obtain ⟨o, ho, hlt, hD, hanc⟩ := ready_out hT hI hi
    obtain ⟨e, he, hok, hM, hM', hloc, hfr⟩ := hT.at_ i o ho
    have hsl : slAt tr i = e.sl := by unfold slAt; rw [he]; rfl
    have hcn : cnt (D.setIfInBounds i true) ops.size ≤ n := by
      have := cnt_set (by rw [hI.sz]; exact hlt) hD ops.size hlt
      omega
    -- what is read agrees with the text
    have hops : ∀ t, .tmp t ∈ o.op.operands → lookL L t = lookL (locT tr [] i) t := fun t ht =>
      agree hT hI (by omega) fun p op hp hdst => hanc p (hT.dr.dep p i op o t hp ho hdst (.inl ht))
    have hev : ∀ x ∈ o.op.operands, ∀ ch, evO E.glob env L ch x = evO E.glob env (locT tr [] i) ch x := fun x hx ch =>
      evO_congr fun t et => hops t (et ▸ hx)
    have hfresh : ∀ d s, e.sl = some (d, s) → fresh L d = true := by
      intro d s hs
      refine fresh_of_none ?_
      cases hl : lookL L d with
      | none => rfl
      | some s' =>
        obtain ⟨p, hp, hsp⟩ := hI.in_ d s' hl
        obtain ⟨o1, a1, b1⟩ := hT.dst (p := i) (by rw [hsl]; exact hs) hlt
        obtain ⟨o2, a2, b2⟩ := hT.dst hsp (by rw [← hI.sz]; exact getD_lt hp)
        have := hT.dr.uniq i p o1 o2 d a1 a2 b1 b2
        subst this
        rw [hD] at hp; simp at hp
    unfold wpOp
    rw [ho]
    dsimp only
    -- an operation that is no store
    have quietNext : isMem E o.op = false → ∀ (S' : Sig) (v : Value) (w' : World), Ext S S' → Rep S' (Mat tr M0 k) w' → (∀ d s, e.sl = some (d, s) → o.dst = some d) → (e.sl = none → o.dst = none) → (∀ d, o.dst = some d → d < nt) →
        (∀ d sl, e.sl = some (d, sl) → (∀ x, sl = .v x → R S' x v) ∧ ∀ s w x, sl = .opt s w x → lookL L s ≠ none ∧ (a.tmps[s]? = some (.bool w) → R S' x v) ∧ (a.tmps[s]? ≠ some (.bool w) → v = undef)) →
        wpAny E.P .any ops Q n (D.setIfInBounds i true) (a.put o.dst v) w' := by
      intro hns S' v w' hE' hR' h1 h2 h3 h4
      have hI' : Inv E ops tr (D.setIfInBounds i true) ((slAt tr i).toList ++ L) k := by
        refine hI.step hT ho hD (fun p hp => (hanc p hp).1) hI.kle (fun r o' hr hs hl => .inl (hI.lo r o' hr hs hl)) (fun r o' hr hs hl => ⟨hI.hi r o' hr hs hl, ?_⟩)
        rintro rfl
        rw [ho] at hr; simp at hr; subst hr
        rw [hns] at hs; simp at hs
      rw [hsl] at hI'
      have hF' : FrL S' env (e.sl.toList ++ L) (a.put o.dst v) := by
        cases hs : e.sl with
        | none => rw [h2 hs]; simpa [Act.put] using hF.ext hE'
        | some x =>
          obtain ⟨d, sl⟩ := x
          have hdd := h1 d sl hs
          obtain ⟨r1, r2⟩ := h4 d sl hs
          rw [hdd]
          exact (hF.ext hE').put (hfresh d sl hs) (by rw [hz]; exact h3 d hdd) r1 r2
      exact ih _ _ k S' _ w' hcn hI' (hG.ext hE') hR' hF' (by rw [put_size]; exact hz) (by rw [put_defers]; exact hd) (fun S2 a2 w2 k1 => hQ S2 a2 w2 (hE'.trans k1))
    cases hok with
    | store T x y b p v t t' hop hg hdst hs hx hy ht hp hz' hM2 hst =>
      rw [if_pos (by simp [Region.wanted, hg])]
      left
      have hstore : isMem E o.op = true := mem_store (by rw [hop]; rfl)
      have hki : k ≤ i := by
        rcases Nat.lt_or_ge i k with h | h
        · have := hI.lo i o ho hstore h
          rw [hD] at this; simp at this
        · exact h
      have hsame : Mat tr M0 i = Mat tr M0 k := by
        have := hT.same (i - k) k (by omega) (fun r h1 h2 o' ho' => ?_)
        · rw [show k + (i - k) = i by omega] at this; exact this
        · cases hs' : isMem E o'.op with
          | false => rfl
          | true =>
            have h3 := hT.dr.st r i o' o ho' ho hs' hstore (by omega)
            have h4 := hI.hi r o' ho' hs' h1
            rw [(hanc r h3).1] at h4; simp at h4
      have hk : stepK E noCall o env L [] (Mat tr M0 k) (fun _ M' => M' = Mat tr M0 (i + 1)) := by
        have hx' : evO E.glob env L [] x = some (.ptr b p) := by rw [hev x (by simp [hop, Op.operands])]; exact hx
        have hy' : evO E.glob env L [] y = some v := by rw [hev y (by simp [hop, Op.operands])]; exact hy
        have ht' : getM (Mat tr M0 k) b = some t := by rw [← hsame, ← hM]; exact ht
        unfold stepK opK
        rw [hop]
        dsimp only
        rw [hdst, hx', hy']
        dsimp only
        unfold storeK
        dsimp only
        rw [ht']
        dsimp only
        rw [hp]
        dsimp only
        exact onB_in hz' (by rw [hM', hM2, hM, hsame])
      refine stepK_sound hE noCall_ok hG hR hF (by intro _ _ hm; simp at hm) hk ?_
      intro S' sv M' v' w' e1 e2 e3 e4
      subst e3
      have hI' : Inv E ops tr (D.setIfInBounds i true) ((slAt tr i).toList ++ L) (i + 1) := by
        refine hI.step hT ho hD (fun p hp => (hanc p hp).1) (by omega) (fun r o' hr hs hl => ?_) (fun r o' hr hs hl => ⟨?_, by omega⟩)
        · rcases Nat.lt_or_ge r i with h | h
          · exact .inl (hanc r (hT.dr.st r i o' o hr ho hs hstore h)).1
          · exact .inr (by omega)
        · exact hI.hi r o' hr hs (by omega)
      rw [hsl, hs] at hI'
      have hF' : FrL S' env L (a.put o.dst v') := by
        rw [hdst]; simpa [Act.put] using hF.ext e1
      exact ih _ _ (i + 1) S' _ w' hcn hI' (hG.ext e1) e2 hF' (by rw [put_size]; exact hz) (by rw [put_defers]; exact hd) (fun S2 a2 w2 k1 => hQ S2 a2 w2 (e1.trans k1))
    | born v d hbv hg hdst hdn hs hM2 hst =>
      rw [if_pos (by simp [Region.wanted, hg])]
      left
      have hstore : isMem E o.op = true := mem_store (bornV_store hbv)
      have hki : k ≤ i := by
        rcases Nat.lt_or_ge i k with h | h
        · have := hI.lo i o ho hstore h
          rw [hD] at this; simp at this
        · exact h
      have hsame : Mat tr M0 i = Mat tr M0 k := by
        have := hT.same (i - k) k (by omega) (fun r h1 h2 o' ho' => ?_)
        · rw [show k + (i - k) = i by omega] at this; exact this
        · cases hs' : isMem E o'.op with
          | false => rfl
          | true =>
            have h3 := hT.dr.st r i o' o ho' ho hs' hstore (by omega)
            have h4 := hI.hi r o' ho' hs' h1
            rw [(hanc r h3).1] at h4; simp at h4
      have hk : stepK E noCall o env L [] (Mat tr M0 k) (fun sv M' => sv = .ptr e.M.length [] ∧ M' = Mat tr M0 (i + 1)) := by
        have hfin : ∀ v', v' = v → (SV.ptr (Mat tr M0 k).length [] = .ptr e.M.length [] ∧ Mat tr M0 k ++ [v'] = Mat tr M0 (i + 1)) := by
          rintro _ rfl
          rw [hM', hM2, hM, hsame]; exact ⟨rfl, rfl⟩
        unfold bornV at hbv
        unfold stepK opK
        split at hbv
        · rename_i T hop
          rw [hop]; dsimp only; rw [hbv]; exact hfin _ rfl
        · rename_i T x hop
          rw [hop]; dsimp only
          rw [hev x (by simp [hop, Op.operands])]
          split at hbv
          · rename_i v0 hv0
            try (rw [hv0]; dsimp only)
            split at hbv
            · simp at hbv
            · rename_i hnt
              simp at hbv
              exact onB_in (by rw [hnt]; rfl) (hfin _ hbv)
          · simp at hbv
        · simp at hbv
      refine stepK_sound hE noCall_ok hG hR hF (by intro _ _ hm; simp at hm) hk ?_
      intro S' sv M' v' w' e1 e2 e3 e4
      obtain ⟨rfl, rfl⟩ := e3
      have hI' : Inv E ops tr (D.setIfInBounds i true) ((slAt tr i).toList ++ L) (i + 1) := by
        refine hI.step hT ho hD (fun p hp => (hanc p hp).1) (by omega) (fun r o' hr hs hl => ?_) (fun r o' hr hs hl => ⟨?_, by omega⟩)
        · rcases Nat.lt_or_ge r i with h | h
          · exact .inl (hanc r (hT.dr.st r i o' o hr ho hs hstore h)).1
          · exact .inr (by omega)
        · exact hI.hi r o' hr hs (by omega)
      rw [hsl, hs] at hI'
      have hF' : FrL S' env ((d, .v (.ptr e.M.length [])) :: L) (a.put o.dst v') := by
        rw [hdst]
        refine (hF.ext e1).put (hfresh d _ hs) (by rw [hz]; exact hdn) (fun x hx => ?_) (fun s w x hx => by simp at hx)
        simp at hx; subst hx
        rcases e4 with e4 | e4
        · rw [hdst] at e4; simp at e4
        · exact e4
      exact ih _ _ (i + 1) S' _ w' hcn hI' (hG.ext e1) e2 hF' (by rw [put_size]; exact hz) (by rw [put_defers]; exact hd) (fun S2 a2 w2 k1 => hQ S2 a2 w2 (e1.trans k1))
    | imp v him hdm hg hs hst hft hd3 hr =>
      rw [if_pos (by simp [Region.wanted, hg])]
      left
      have hstore : isMem E o.op = true := by unfold isMem; rw [him]; simp
      have hki : k ≤ i := by
        rcases Nat.lt_or_ge i k with h | h
        · have := hI.lo i o ho hstore h
          rw [hD] at this; simp at this
        · exact h
      have hsame : Mat tr M0 i = Mat tr M0 k := by
        have := hT.same (i - k) k (by omega) (fun r h1 h2 o' ho' => ?_)
        · rw [show k + (i - k) = i by omega] at this; exact this
        · cases hs' : isMem E o'.op with
          | false => rfl
          | true =>
            have h3 := hT.dr.st r i o' o ho' ho hs' hstore (by omega)
            have h4 := hI.hi r o' ho' hs' h1
            rw [(hanc r h3).1] at h4; simp at h4
      have hk : stepK E call o env L [] (Mat tr M0 k) (fun sv M' => sv = v ∧ M' = Mat tr M0 (i + 1)) := by
        have h1 := hr (fun sv M' => sv = v ∧ M' = Mat tr M0 (i + 1)) ⟨rfl, hM'.symm⟩
        rw [hM, hsame] at h1
        exact stepK_imp_congr him (fun x hx => hev x hx []) h1
      refine stepK_sound hE hcall hG hR hF (by intro _ _ hm; simp at hm) hk ?_
      intro S' sv M' v' w' e1 e2 e3 e4
      obtain ⟨rfl, rfl⟩ := e3
      have hI' : Inv E ops tr (D.setIfInBounds i true) ((slAt tr i).toList ++ L) (i + 1) := by
        refine hI.step hT ho hD (fun p hp => (hanc p hp).1) (by omega) (fun r o' hr hs hl => ?_) (fun r o' hr hs hl => ⟨?_, by omega⟩)
        · rcases Nat.lt_or_ge r i with h | h
          · exact .inl (hanc r (hT.dr.st r i o' o hr ho hs hstore h)).1
          · exact .inr (by omega)
        · exact hI.hi r o' hr hs (by omega)
      rw [hsl] at hI'
      have hF' : FrL S' env (e.sl.toList ++ L) (a.put o.dst v') := by
        cases hd : o.dst with
        | none => rw [hs, hd]; simpa [Act.put] using hF.ext e1
        | some d =>
          rw [hs, hd]
          refine (hF.ext e1).put (hfresh d (.v sv) (by rw [hs, hd]; rfl)) (by rw [hz]; exact hd3 d hd) (fun x hx => ?_) (fun s w x hx => by simp at hx)
          simp at hx; subst hx
          rcases e4 with e4 | e4
          · rw [hd] at e4; simp at e4
          · exact e4
      exact ih _ _ (i + 1) S' _ w' hcn hI' (hG.ext e1) e2 hF' (by rw [put_size]; exact hz) (by rw [put_defers]; exact hd) (fun S2 a2 w2 k1 => hQ S2 a2 w2 (e1.trans k1))
    | plain v hns hg hs hM2 hst hd3 hft hr =>
      rw [if_pos (by simp [Region.wanted, hg])]
      left
      have h1 := hr (fun sv => sv = v) rfl
      have h2 : stepD E o env L [] (Mat tr M0 k) (fun sv => sv = v) := by
        refine stepD_congr hops (fun b p hf => ?_) h1
        rw [hM]
        exact mem_agree hT hI hlt hD hanc he (by rw [hft]; exact hf)
      refine stepD_sound hE hgam hG hR hF (by intro _ _ hm; simp at hm) h2 ?_
      intro S' sv v' w' e1 e2 e3 e4
      subst e3
      refine quietNext hns S' v' w' e1 e2 ?_ ?_ hd3 ?_
      · intro d s h; rw [hs] at h; simp at h; obtain ⟨d', h1, h2, _⟩ := h; rw [h1, h2]
      · intro h; rw [hs] at h; simpa using h
      · intro d sl h
        rw [hs] at h; simp at h
        obtain ⟨d', h1, h2, h3⟩ := h
        subst h3
        refine ⟨fun x hx => ?_, fun s w x hx => by simp at hx⟩
        simp at hx; subst hx
        rcases e4 with e4 | e4
        · rw [h1] at e4; simp at e4
        · exact e4
    | guarded v g wn s hns hg hgs hl hs hM2 hst hd3 hr =>
      obtain ⟨og, hog, hod⟩ : ∃ og, ops[g]? = some og ∧ og.dst = some s := by
        cases eg : ops[g]? with
        | none => simp [eg] at hgs
        | some og => rw [eg] at hgs; exact ⟨og, rfl, by simpa using hgs⟩
      have hA : ∀ (p : Nat) o', ops[p]? = some o' → o'.dst = some s → D.getD p false = true ∧ p < i := by
        intro p o' hp hdp
        have : p = g := hT.dr.uniq p g o' og s hp hog hdp hod
        subst this
        exact hanc p (hT.dr.dep p i og o s hog ho hod (.inr ⟨p, wn, hg, rfl⟩))
      have hsA := agree hT hI (by omega : i ≤ ops.size) hA
      obtain ⟨c1, c2⟩ := chain_agree hT hI (by omega : i ≤ ops.size) 8 s hA
      have hls : lookL L s ≠ none := by rw [hsA]; exact hl
      by_cases hw : Region.wanted o (yielded ops a.tmps) = true
      · rw [if_pos hw]
        left
        have hb := (wanted_some hg hgs).1 hw
        have hc : ChH ((s, wn) :: chain (locT tr [] i) 8 s) a := by rw [← c1]; exact ChH.cons hb (chain_holds hF 8 s wn hb)
        rcases hr with ⟨hft, hr⟩ | hr
        · have h1 := hr (fun sv => sv = v) rfl
          have h2 : stepD E o env L ((s, wn) :: chain (locT tr [] i) 8 s) (Mat tr M0 k) (fun sv => sv = v) := by
            refine stepD_congr hops (fun b p hf => ?_) h1
            rw [hM]
            exact mem_agree hT hI hlt hD hanc he (by rw [hft]; exact hf)
          refine stepD_sound hE hgam hG hR hF hc h2 ?_
          intro S' sv v' w' e1 e2 e3 e4
          subst e3
          refine quietNext hns S' v' w' e1 e2 ?_ ?_ hd3 ?_
          · intro d s h; rw [hs] at h; simp at h; obtain ⟨d', h1, h2, _⟩ := h; rw [h1, h2]
          · intro h; rw [hs] at h; simpa using h
          · intro d sl h
            rw [hs] at h; simp at h
            obtain ⟨d', h1, h2, h3⟩ := h
            subst h3
            refine ⟨fun x hx => by simp at hx, fun s w x hx => ?_⟩
            simp at hx; obtain ⟨rfl, rfl, rfl⟩ := hx
            refine ⟨hls, fun _ => ?_, fun hne => (hne hb).elim⟩
            rcases e4 with e4 | e4
            · rw [h1] at e4; simp at e4
            · exact e4
        · have : guardB env L ((s, wn) :: chain (locT tr [] i) 8 s) = some false := by
            rw [← hr]
            refine guardB_congr _ fun s' w' hm => ?_
            rcases List.mem_cons.1 hm with e | hm
            · simp at e; obtain ⟨rfl, rfl⟩ := e; exact hsA
            · exact c2 s' w' hm
          have := guardB_true hF _ _ this hc
          simp at this
      · rw [if_neg hw]
        have hb : a.tmps[s]? ≠ some (.bool wn) := fun e => hw ((wanted_some hg hgs).2 e)
        refine quietNext hns S undef w (Ext.refl S) hR ?_ ?_ hd3 ?_
        · intro d s h; rw [hs] at h; simp at h; obtain ⟨d', h1, h2, _⟩ := h; rw [h1, h2]
        · intro h; rw [hs] at h; simpa using h
        · intro d sl h
          rw [hs] at h; simp at h
          obtain ⟨d', h1, h2, h3⟩ := h
          subst h3
          refine ⟨fun x hx => by simp at hx, fun s w x hx => ?_⟩
          simp at hx; obtain ⟨rfl, rfl, rfl⟩ := hx
          exact ⟨hls, fun e => (hb e).elim, fun _ => rfl⟩
end

/-- Every order of such a region. -/
theorem regDK_sound {E : Env} {call : CallT} (hE : EnvOK E) (hgam : GamOK E) (hcall : CallOK E call) {nt : Nat} {ops : Array Oper} {Q : Exit → Act → World → Prop} {S : Sig} {env : List (Tmp × SV)} {M : Mem} {K : List (Tmp × Sl) → Mem → Prop} {a : Act} {w : World}
    (hdr : drOK E ops = true) (hk : regDK E call nt ops ops.toList 0 [] env M [] [] [] K) (hG : Glob E S) (hR : Rep S M w) (hF : FrL S env [] a) (hz : a.tmps.size = nt) (hd : a.defers = [])
    (hQ : ∀ S' loc' M' a' w', Ext S S' → Rep S' M' w' → FrL S' env loc' a' → a'.tmps.size = nt → a'.defers = [] → K loc' M' → Q .normal a' w') :
    wpAny E.P .any ops Q ops.size (Array.replicate ops.size false) a w := by
  obtain ⟨tr, locF, MF, rdF, wrF, clF, t1, t2, t3, _, _, t6, t7, _, t9, t10⟩ := regDK_trace hcall.1 _ _ _ _ _ _ _ _ hk
  obtain ⟨a1, a2, a3, a4⟩ := Trace.at t1
  have hT : Tel E call nt ops env tr M := by
    refine ⟨dr_of hdr, fun j o ho => a4 j o (by simpa using ho), ?_, fun i r ei er b p h1 h2 h3 h4 => ?_⟩
    rotate_left
    · have f1 := t6 _ (feet_mem (j := 0) h1 h3)
      have f2 := t9 _ (cls_mem (j := 0) h2 h4)
      simp only [Nat.zero_add] at f1 f2
      exact t10 i b p f1 r _ _ f2
    intro i r ei er b p c q h1 h2 h3 h4
    have f1 := t6 _ (feet_mem (j := 0) h1 h3)
    have f2 := t7 _ (sts_mem (j := 0) h2 h4)
    simp only [Nat.zero_add] at f1 f2
    exact disjAll_iff.1 t3 i b p f1 r c q f2
  have hsz : ops.toList.length = ops.size := by simp
  rw [hsz] at a2 a3
  have hrep : ∀ j, (Array.replicate ops.size false).getD j false = false := by
    intro j
    rw [Array.getD_eq_getD_getElem?, Array.getElem?_replicate]
    split <;> rfl
  refine any_sound hE hgam hcall hT ops.size _ [] 0 S a w (cnt_le _) ⟨by simp, ?_, ?_, ?_, by omega, ?_, ?_⟩ hG (by cases tr <;> exact hR) hF hz hd ?_
  · intro i j h; rw [hrep] at h; simp at h
  · intro p t s h; rw [hrep] at h; simp at h
  · intro t s h; simp [lookL] at h
  · intro i o h1 h2 h3; omega
  · intro i o h1 h2 h3; exact hrep i
  · intro S' a' w' e1 e2 e3 e4 e5
    rw [← a3] at e2
    rw [← a2] at e3
    exact hQ S' locF MF a' w' e1 e2 e3 e4 e5 t2

end Go.Sx

namespace Go.Sx
open Go.RowKit (Below)
set_option linter.unusedVariables false
set_option linter.unusedSimpArgs false

theorem lookE_cons_ne {l : List (Tmp × SV)} {t d : Tmp} {x : SV} (h : d ≠ t) : lookE ((d, x) :: l) t = lookE l t := by
  have : Nat.beq d t = false := by
    cases e : Nat.beq d t with
    | false => rfl
    | true => exact (h (Nat.eq_of_beq_eq_true e)).elim
  simp [lookE, this]
theorem lookE_cons_eq {l : List (Tmp × SV)} {d : Tmp} {x : SV} : lookE ((d, x) :: l) d = some x := by
  have : Nat.beq d d = true := Nat.beq_refl d
  simp [lookE, this]

theorem flush_look {env : List (Tmp × SV)} {t : Tmp} {x : SV} : ∀ (loc : List (Tmp × Sl)), noOpt loc env = true → lookE (flush loc env) t = some x →
    lookL loc t = some (.v x) ∨ (lookL loc t = none ∧ lookE env t = some x)
  | [], hn, h => .inr ⟨rfl, h⟩
  | (s, .v y) :: l, hn, h => by
    simp only [flush] at h
    simp only [noOpt] at hn
    by_cases e : s = t
    · subst e
      rw [lookE_cons_eq] at h; simp at h; subst h
      exact .inl lookL_cons_eq
    · rw [lookE_cons_ne e] at h
      rw [lookL_cons_ne e]
      exact flush_look l hn h
  | (s, .opt u w y) :: l, hn, h => by
    simp only [flush] at h
    simp [noOpt] at hn
    by_cases e : s = t
    · subst e
      rw [h] at hn; simp at hn
    · rw [lookL_cons_ne e]
      exact flush_look l hn.2 h

theorem FrL.flush {S : Sig} {env : List (Tmp × SV)} {loc : List (Tmp × Sl)} {a : Act} (hF : FrL S env loc a) (hn : noOpt loc env = true) : FrE S (Sx.flush loc env) a := by
  intro t x h
  rcases flush_look loc hn h with h | ⟨h1, h2⟩
  · exact hF.v t x h
  · exact hF.e t h1 x h2

theorem FrE.loc {S : Sig} {env : List (Tmp × SV)} {a : Act} (h : FrE S env a) : FrL S env [] a :=
  ⟨fun t x e => by simp [lookL] at e, fun t s w x e => by simp [lookL] at e, fun t s w x e => by simp [lookL] at e, fun t s w x e => by simp [lookL] at e, fun t _ x e => h t x e⟩
theorem FrE.ext {S S' : Sig} {env : List (Tmp × SV)} {a : Act} (h : FrE S env a) (hE : Ext S S') : FrE S' env a := fun t x e => R_ext hE (h t x e)

/-- All that is held of a state: its memory, its frame. -/
structure Ok (S : Sig) (nt : Nat) (st : St) (a : Act) (w : World) : Prop where
  rep : Rep S st.mem w
  fr : FrE S st.env a
  sz : a.tmps.size = nt
  df : a.defers = []

def Post (S : Sig) (nt : Nat) (K : Kont) (Q : Exit → Act → World → Prop) : Prop :=
  ∀ e S' st' a' w', Ext S S' → Ok S' nt st' a' w' → K e st' → Q e a' w'

theorem Post.ext {S S' : Sig} {nt : Nat} {K : Kont} {Q : Exit → Act → World → Prop} (h : Post S nt K Q) (hE : Ext S S') : Post S' nt K Q :=
  fun e S2 st a w h1 h2 h3 => h e S2 st a w (hE.trans h1) h2 h3

def Sound (E : Env) (nt : Nat) (c : Code) (body : St → Kont → Prop) : Prop :=
  ∀ (S : Sig) (st : St) (K : Kont) (Q : Exit → Act → World → Prop) (a : Act) (w : World), body st K → Glob E S → Ok S nt st a w → Post S nt K Q → c.wp E.P Q a w

theorem rounds_sound {E : Env} {nt : Nat} {c : Code} {body : St → Kont → Prop} (hb : Sound E nt c body) {K : Kont} {Q : Exit → Act → World → Prop} : ∀ (n : Nat) (S : Sig) (st : St) (a : Act) (w : World),
    rounds body K n st → Glob E S → Ok S nt st a w → Post S nt K Q → Code.rounds E.P c Q n a w
  | 0, S, st, a, w, h, hG, ho, hP => h.elim
  | n + 1, S, st, a, w, h, hG, ho, hP => by
    simp only [rounds] at h
    rw [rounds_succ]
    refine hb S st _ _ a w h hG ho ?_
    intro e S' st' a' w' hE ho' hk
    cases e <;> first
      | exact rounds_sound hb n S' st' a' w' hk (hG.ext hE) ho' (hP.ext hE)
      | exact hP _ S' st' a' w' hE ho' hk

theorem keepE_look {env : List (Tmp × SV)} {t : Tmp} {x : SV} : ∀ (l : List Tmp) (e : List (Tmp × SV)), keepE env l = some e → lookE e t = some x → lookE env t = some x
  | [], e, h, hl => by simp [keepE] at h; subst h; simp [lookE] at hl
  | s :: l, e, h, hl => by
    simp only [keepE] at h
    split at h
    · rename_i v r hv hr
      simp at h; subst h
      by_cases e : s = t
      · subst e; rw [lookE_cons_eq] at hl; simp at hl; subst hl; exact hv
      · rw [lookE_cons_ne e] at hl; exact keepE_look l r hr hl
    · simp at h
theorem clE_look {n : Nat} {t : Tmp} {x : SV} : ∀ (e : List (Tmp × SV)), clE n e = true → lookE e t = some x → x.cl n = true
  | [], h, hl => by simp [lookE] at hl
  | (s, v) :: l, h, hl => by
    simp [clE] at h
    by_cases e : s = t
    · subst e; rw [lookE_cons_eq] at hl; simp at hl; subst hl; exact h.1
    · rw [lookE_cons_ne e] at hl; exact clE_look l h.2 hl
theorem clAll_get {n : Nat} {t : SV} : ∀ (l : List SV) (i : Nat), clAll n l = true → l[i]? = some t → t.cl n = true
  | [], i, h, hi => by simp at hi
  | v :: l, 0, h, hi => by simp [clAll] at h; simp at hi; subst hi; exact h.1
  | v :: l, i + 1, h, hi => by simp [clAll] at h; exact clAll_get l i h.2 (by simpa using hi)

theorem norm_sound {S0 S : Sig} {nt : Nat} {keep : List Tmp} {st s : St} {a : Act} {w : World} (hE : Ext S0 S) (ho : Ok S nt st a w) (hn : normSt keep S0.sh.length st = some s) (hle : S0.sh.length ≤ S.sh.length) :
    ∃ S', Ext S0 S' ∧ Ok S' nt s a w ∧ S'.sh.length = S0.sh.length := by
  unfold normSt at hn
  split at hn
  · rename_i e he
    split at hn
    · rename_i hc
      simp at hn hc; subst hn
      obtain ⟨c1, c2⟩ := hc
      let S' : Sig := { S with sh := S.sh.take S0.sh.length }
      have hT : Tr S0.sh.length S S' := ⟨fun _ _ h => h, fun j hj t e => ⟨by show (S.sh.take _)[j]? = _; rw [List.getElem?_take, if_pos hj]; exact e, rfl⟩⟩
      have hlen : S.sh.length = st.mem.length := by rw [ho.rep.sh]; simp
      refine ⟨S', ⟨hE.W, hE.F, hE.g, fun j t e => ?_⟩, ⟨⟨⟨ho.rep.base.size, ho.rep.base.same, ho.rep.base.g⟩, ?_, ho.rep.size, ho.rep.kept, ho.rep.os, ho.rep.tape, ho.rep.out, ?_, ?_, ?_⟩, ?_, ho.sz, ho.df⟩, ?_⟩
      · have hj : j < S0.sh.length := by
          rcases Nat.lt_or_ge j S0.sh.length with h | h
          · exact h
          · simp [List.getElem?_eq_none h] at e
        obtain ⟨e1, e2⟩ := hE.sh j t e
        exact ⟨(hT.sh j hj t e1).1, e2⟩
      · show S.sh.take _ = _; rw [ho.rep.sh]; simp
      · intro i j hi hj e
        simp at hi hj
        exact ho.rep.inj i j (by omega) (by omega) e
      · intro i hi
        simp at hi
        exact ho.rep.new i (by omega)
      · intro i t hi
        rw [List.getElem?_take] at hi
        split at hi
        · obtain ⟨cs, el, h1, h2⟩ := ho.rep.blk i t hi
          refine ⟨cs, el, h1, Rf_tr hT t _ (clAll_get _ i c2 (by rw [List.getElem?_take, if_pos ‹_›]; exact hi)) h2⟩
        · simp at hi
      · intro t x hl
        exact R_tr hT (clE_look e c1 hl) (ho.fr t x (keepE_look keep e he hl))
      · show (S.sh.take _).length = _; simp; omega
    · simp at hn
  · simp at hn

theorem Ext.len {S S' : Sig} (h : Ext S S') : S.sh.length ≤ S'.sh.length := by
  rcases Nat.eq_zero_or_pos S.sh.length with e | e
  · omega
  · have hl : S.sh.length - 1 < S.sh.length := by omega
    obtain ⟨h1, _⟩ := h.sh (S.sh.length - 1) _ (List.getElem?_eq_getElem hl)
    rcases Nat.lt_or_ge (S.sh.length - 1) S'.sh.length with h | h
    · omega
    · simp [List.getElem?_eq_none h] at h1

theorem roundsN_sound {E : Env} {nt : Nat} {c : Code} {body : St → Kont → Prop} (hb : Sound E nt c body) {K : Kont} {Q : Exit → Act → World → Prop} {keep : List Tmp} {S0 : Sig} (hP : Post S0 nt K Q) (hG : Glob E S0) :
    ∀ (n : Nat) (S : Sig) (st : St) (a : Act) (w : World), roundsN keep S0.sh.length body K n st → Ext S0 S → Ok S nt st a w → Code.rounds E.P c Q n a w
  | 0, S, st, a, w, h, hE, ho => h.elim
  | n + 1, S, st, a, w, h, hE, ho => by
    simp only [roundsN] at h
    rw [rounds_succ]
    refine hb S st _ _ a w h (hG.ext hE) ho ?_
    intro e S' st' a' w' hE' ho' hk
    split at hk
    · rename_i s hs
      obtain ⟨S2, e1, e2, _⟩ := norm_sound (hE.trans hE') ho' hs (hE.trans hE').len
      cases e with
      | normal => exact roundsN_sound hb hP hG n S2 s a' w' hk e1 e2
      | _ => exact hP _ S2 s a' w' e1 e2 hk
    · exact hk.elim

/-- A loop's contract, in the model's words. -/
def LoopSem (E : Env) (nt : Nat) (c : Code) (l : LCon) : Prop :=
  ∀ (S : Sig) (s : St) (K : Kont) (Q : Exit → Act → World → Prop) (a : Act) (w : World), l.pt s K → Glob E S → Ok S nt s a w → Post S nt K Q → (Code.loop c).wp E.P Q a w

theorem loop_sem {E : Env} {nt : Nat} {c : Code} {body : St → Kont → Prop} (hb : Sound E nt c body) {l : LCon} (h : ∀ s K, l.pt s K → ∃ n, roundsN l.keep s.mem.length body K n s) : LoopSem E nt c l := by
  intro S s K Q a w hp hG ho hP
  obtain ⟨n, hn⟩ := h s K hp
  have hlen : S.sh.length = s.mem.length := by rw [ho.rep.sh]; simp
  rw [← hlen] at hn
  exact wp_loop_rounds n (roundsN_sound hb hP hG n S s a w hn (Ext.refl S) ho)

def loopsOf : Code → List (Nat × Code)
  | .seq a b => loopsOf a ++ loopsOf b
  | .cond _ a b => loopsOf a ++ loopsOf b
  | .block _ c => loopsOf c
  | .loop c => (firstId c, c) :: loopsOf c
  | _ => []

theorem execC_sound {E : Env} {call : CallT} {fid : FuncId} {nt : Nat} (hE : EnvOK E) (hgam : GamOK E) (hcall : CallOK E call) : ∀ (c : Code), (∀ x ∈ loopsOf c, ∀ l, E.loop fid x.1 = some l → LoopSem E nt x.2 l) → Sound E nt c (execC E call fid nt c)
  | .skip => fun _ S st K Q a w hk hG ho hP => wp_skip (hP _ S st a w (Ext.refl S) ho hk)
  | .region id ops draw => fun _ S st K Q a w hk hG ho hP => by
    simp only [execC] at hk
    split at hk
    · obtain ⟨hdr, hk⟩ := onB_out hk
      refine wp_region_any hE.mixed (regDK_sound hE hgam hcall hdr hk hG (ho.rep.drew) ho.fr.loc ho.sz ho.df ?_)
      intro S' loc' M' a' w' e1 e2 e3 e4 e5 hk'
      obtain ⟨h1, h2⟩ := onB_out hk'
      exact hP _ S' _ a' w' e1 ⟨e2, e3.flush h1, e4, e5⟩ h2
    · refine wp_region_list (regK_sound hE hcall ops.toList S [] st.env st.mem _ a w hk hG ho.rep ho.fr.loc ho.sz ho.df ?_)
      intro S' loc' M' a' w' e1 e2 e3 e4 e5 hk'
      obtain ⟨h1, h2⟩ := onB_out hk'
      exact hP _ S' _ a' w' e1 ⟨e2, e3.flush h1, e4, e5⟩ h2
  | .seq x y => fun hl S st K Q a w hk hG ho hP => by
    simp only [execC] at hk
    refine wp_seq (execC_sound hE hgam hcall x (fun z hz => hl z (by simp [loopsOf, hz])) S st _ _ a w hk hG ho ?_)
    intro e S' st' a' w' hE' ho' hk'
    cases e <;> first
      | exact execC_sound hE hgam hcall y (fun z hz => hl z (by simp [loopsOf, hz])) S' st' K Q a' w' hk' (hG.ext hE') ho' (hP.ext hE')
      | exact hP _ S' st' a' w' hE' ho' hk'
  | .cond c x y => fun hl S st K Q a w hk hG ho hP => by
    simp only [execC] at hk
    split at hk
    · rename_i hc
      exact wp_cond_true (R_b (evO_sound hG ho.fr.loc (by intro _ _ hm; simp at hm) hc)) (execC_sound hE hgam hcall x (fun z hz => hl z (by simp [loopsOf, hz])) S st K Q a w hk hG ho hP)
    · rename_i hc
      exact wp_cond_false (R_b (evO_sound hG ho.fr.loc (by intro _ _ hm; simp at hm) hc)) (execC_sound hE hgam hcall y (fun z hz => hl z (by simp [loopsOf, hz])) S st K Q a w hk hG ho hP)
    · exact hk.elim
  | .block id c => fun hl S st K Q a w hk hG ho hP => by
    simp only [execC] at hk
    refine wp_block (execC_sound hE hgam hcall c (fun z hz => hl z (by simpa [loopsOf] using hz)) S st _ _ a w hk hG ho ?_)
    intro e S' st' a' w' hE' ho' hk'
    cases e with
    | exit j =>
      simp only at hk'
      simp only [Exit.inBlock]
      split at hk'
      · rename_i hj
        rw [if_pos (Nat.eq_of_beq_eq_true hj)]
        exact hP _ S' st' a' w' hE' ho' hk'
      · rename_i hj
        rw [if_neg (fun e => by subst e; simp at hj)]
        exact hP _ S' st' a' w' hE' ho' hk'
    | _ => exact hP _ S' st' a' w' hE' ho' hk'
  | .loop c => fun hl S st K Q a w hk hG ho hP => by
    simp only [execC] at hk
    split at hk
    · exact wp_loop_rounds 40 (rounds_sound (execC_sound hE hgam hcall c (fun z hz => hl z (by simp [loopsOf, hz]))) 40 S st a w hk hG ho hP)
    · rename_i l hlo
      have hlen : S.sh.length = st.mem.length := by rw [ho.rep.sh]; simp
      split at hk
      · rename_i s hs
        rw [← hlen] at hs
        obtain ⟨S2, e1, e2, e3⟩ := norm_sound (Ext.refl S) ho hs (Nat.le_refl _)
        exact hl (firstId c, c) (by simp [loopsOf]) l hlo S2 s K Q a w hk (hG.ext e1) e2 (hP.ext e1)
      · exact hk.elim
  | .exit id => fun _ S st K Q a w hk hG ho hP => wp_exit (hP _ S st a w (Ext.refl S) ho hk)
  | .label l => fun _ S st K Q a w hk hG ho hP => wp_label (hP _ S st a w (Ext.refl S) ho hk)
  | .ret => fun _ S st K Q a w hk hG ho hP => wp_ret (hP _ S st a w (Ext.refl S) ho hk)
  | .rangeFunc .. => fun _ S st K Q a w hk hG ho hP => by simp only [execC] at hk
  | .scope _ => fun _ S st K Q a w hk hG ho hP => by simp only [execC] at hk
  | .goto _ => fun _ S st K Q a w hk hG ho hP => by simp only [execC] at hk
  | .refuse _ => fun _ S st K Q a w hk hG ho hP => by simp only [execC] at hk

end Go.Sx

namespace Go.Sx
open Go.RowKit (Below)
set_option linter.unusedVariables false
set_option linter.unusedSimpArgs false

theorem initE_look {t : Nat} {v : SV} : ∀ (args : List SV) (k : Nat), lookE (initE args k) t = some v → ∃ i, t = k + i ∧ args[i]? = some v
  | [], k, h => by simp [initE, lookE] at h
  | x :: l, k, h => by
    simp only [initE] at h
    by_cases e : k = t
    · subst e; rw [lookE_cons_eq] at h; simp at h; subst h; exact ⟨0, by simp, by simp⟩
    · rw [lookE_cons_ne e] at h
      obtain ⟨i, e1, e2⟩ := initE_look l (k + 1) h
      exact ⟨i + 1, by omega, by simpa using e2⟩

theorem Rt_of_All2 {S : Sig} : ∀ {l : List SV} {m : List Value}, All2 (R1 S) l m → Rt S (SVs.ofList l) m
  | _, _, .nil => rfl
  | _, _, .cons h1 h2 => ⟨_, _, rfl, h1, Rt_of_All2 h2⟩

def resF (a : Act) : ResultVar → Sem Value
  | .tmp t => pure (a.tmps.getD t undef)
  | .cell p t => do loadVar t (← asAddr (a.tmps.getD p undef))

theorem results_eq (fn : Func) (a : Act) : results fn a.tmps = (do
    let vs ← fn.results.mapM (resF a)
    pure (if h : vs.size = 1 then vs[0] else .tuple vs)) := by
  unfold results
  congr 1

theorem resV_sound {E : Env} {S : Sig} {M : Mem} {w : World} {env : List (Tmp × SV)} {a : Act} (h : Rep S M w) (hF : FrE S env a) : ∀ (l : List ResultVar) (K : List SV → Prop), resV E.P env M l K →
    ∃ vs xs, K vs ∧ (l.mapM (resF a)).run E.P w = .ok xs w ∧ All2 (R1 S) vs xs
  | [], K, hk => ⟨[], [], hk, by simp, .nil⟩
  | .tmp t :: l, K, hk => by
    simp only [resV] at hk
    split at hk
    · rename_i v hv
      obtain ⟨h1, hk2⟩ := onB_out hk
      obtain ⟨vs, xs, k1, k2, k3⟩ := resV_sound h hF l _ hk2
      simp at h1
      refine ⟨_, _, k1, ?_, .cons (R1_of_R (hF t v hv) h1) k3⟩
      simp [List.mapM_cons, resF, k2, tv]
    · exact hk.elim
  | .cell p T :: l, K, hk => by
    simp only [resV] at hk
    split at hk
    · rename_i b q hv
      obtain ⟨t, v, ad, k1, k2, k3, k4⟩ := h.loadK (hF p _ hv) hk
      obtain ⟨vs, xs, j1, j2, j3⟩ := resV_sound h hF l _ k1
      refine ⟨_, _, j1, ?_, .cons k4 j3⟩
      have k2' : a.tmps.getD p undef = .pointer (some ad) := k2
      simp [List.mapM_cons, resF, k2', asAddr, k3, j2]
    · exact hk.elim

theorem retK_sound {E : Env} {S : Sig} {nt : Nat} {st : St} {a : Act} {w : World} {fn : Func} {K : SV → Mem → Prop} (ho : Ok S nt st a w) (hk : retK E.P fn.results.toList st K) :
    ∃ sv v, K sv st.mem ∧ (results fn a.tmps).run E.P w = .ok v w ∧ R S sv v := by
  unfold retK at hk
  obtain ⟨vs, xs, k1, k2, k3⟩ := resV_sound ho.rep ho.fr _ _ hk
  rw [results_eq]
  simp only [Array.mapM_eq_mapM_toList, Sem.run_bind, Sem.run_map, k2, Result.andThen_ok, Sem.run_pure]
  have hlen := k3.len
  split at k1
  · rename_i v
    cases k3 with
    | cons h1 h2 =>
      cases h2
      exact ⟨_, _, k1, by simp, R_of_R1 h1⟩
  · rename_i hne
    refine ⟨_, .tuple xs.toArray, k1, ?_, ?_⟩
    · have : xs.toArray.size ≠ 1 := by
        intro e
        have : vs.length = 1 := by rw [hlen]; simpa using e
        obtain ⟨v, rfl⟩ := List.length_eq_one_iff.1 this
        exact hne v rfl
      rw [dif_neg this]
    · exact ⟨xs.toArray, rfl, by simpa using Rt_of_All2 k3⟩

/-- The loops' contracts hold. -/
def LoopsOK (E : Env) : Prop := ∀ (f : FuncId) (fn : Func) (c : Code), E.P.funcs[f]? = some fn → fn.body = some c → ∀ x ∈ loopsOf c, ∀ l, E.loop f x.1 = some l → LoopSem E fn.ntmps x.2 l

theorem bodyK_sound {E : Env} {call : CallT} (hE : EnvOK E) (hgam : GamOK E) (hlo : LoopsOK E) (hcall : CallOK E call) {f : FuncId} {fn : Func} {args : List SV} {M : Mem} {K : SV → Mem → Prop} (hf : E.P.funcs[f]? = some fn) (hk : bodyK E call f fn args M K)
    {S : Sig} {w : World} {vs : Array Value} (hG : Glob E S) (h : Rep S M w) (hr : All2 (R S) args vs.toList) : CallsTo E f vs S w K := by
  unfold bodyK at hk
  split at hk
  · exact hk.elim
  · rename_i c hb
    obtain ⟨hz, hk2⟩ := onB_out hk
    have hlen : args.length = vs.size := by simpa using hr.len
    have hz' : vs.size ≤ fn.ntmps := by rw [← hlen]; exact Nat.le_of_ble_eq_true hz
    unfold CallsTo
    refine calls_of_wp hf hb (execC_sound hE hgam hcall c (hlo f fn c hf hb) S ⟨initE args 0, M⟩ _ _ _ w hk2 hG ⟨h, ?_, ?_, rfl⟩ ?_)
    · intro t x hl
      obtain ⟨i, e, hi⟩ := initE_look args 0 hl
      rw [Nat.zero_add] at e
      subst e
      obtain ⟨y, hy, hx⟩ := hr.get t x hi
      have : tv { tmps := vs ++ Array.replicate (fn.ntmps - vs.size) undef, defers := [] } t = y := by
        apply tv_of_some
        have hlt : t < vs.size := by
          rw [← hlen]
          rcases Nat.lt_or_ge t args.length with h | h
          · exact h
          · simp [List.getElem?_eq_none h] at hi
        show (vs ++ _)[t]? = some y
        rw [Array.getElem?_append_left hlt, ← Array.getElem?_toList]
        exact hy
      rw [this]; exact hx
    · simp; exact Nat.add_sub_cancel' hz'
    · intro e S' st' a' w' hE' ho' hk'
      have fin : retK E.P fn.results.toList st' K → a'.defers = [] ∧ ∃ v, (results fn a'.tmps).run E.P w' = .ok v w' ∧ ∃ S' sv M' v', Ext S S' ∧ Rep S' M' w' ∧ K sv M' ∧ Ending.returned v = .returned v' ∧ R S' sv v' := by
        intro hk
        obtain ⟨sv, v, k1, k2, k3⟩ := retK_sound (fn := fn) ho' hk
        exact ⟨ho'.df, v, k2, S', sv, _, v, hE', ho'.rep, k1, rfl, k3⟩
      cases e <;> first
        | exact fin hk'
        | exact hk'.elim

theorem callN_run {E : Env} (hE : EnvOK E) (hg : GamOK E) (hlo : LoopsOK E) : ∀ n, (∀ (f : FuncId) (args : List SV) (M : Mem) (K : SV → Mem → Prop), callN E n f args M K → okF E.P f = true →
  ∀ (S : Sig) (w : World) (vs : Array Value), Glob E S → Rep S M w → All2 (R S) args vs.toList →
    Calls E.P f vs w fun e w' => ∃ S' sv M' v, Ext S S' ∧ Rep S' M' w' ∧ K sv M' ∧ e = .returned v ∧ R S' sv v)
  | 0 => fun f args M K hk => hk.elim
  | n + 1 => fun f args M K hk hf S w vs hG h hr => by
    simp only [callN] at hk
    split at hk
    · rename_i c hc
      exact conK_sound (hg f c hc) hk hG h hr
    · split at hk
      · exact hk.elim
      · rename_i fn hfn
        exact bodyK_sound hE hg hlo ⟨fun hd => d2_callN (hE.det hd) (fun f pt e => (hg f _ e).1) n, callN_run hE hg hlo n⟩ hfn hk hG h hr
theorem callN_sound {E : Env} (hE : EnvOK E) (hg : GamOK E) (hlo : LoopsOK E) (n : Nat) : CallOK E (callN E n) :=
  ⟨fun hd => d2_callN (hE.det hd) (fun f pt e => (hg f _ e).1) n, callN_run hE hg hlo n⟩

/-! ### Contracts out of bodies -/
theorem con_pure {E : Env} (hE : EnvOK E) (hg : GamOK E) (hlo : LoopsOK E) (n : Nat) {f : FuncId} {fn : Func} (hfn : E.P.funcs[f]? = some fn) {pre : List SV → Prop} {f' : List SV → Option SV}
    (h : ∀ args r, f' args = some r → pre args → bodyK E (callN E n) f fn args [] (fun r' _ => onB (r'.cl 0) (r' = r))) : ConOK E f (.pure pre f') := by
  intro args r hf hp hc S w vs hB hF hg' hsh hG hr
  have hrep : Rep S [] w := by
    subst hF
    exact ⟨hB, by simp [hsh], Nat.le_refl _, fun _ _ _ => rfl, rfl, rfl, rfl, fun i j hi => by simp at hi, fun i hi => by simp at hi, fun i t hi => by simp at hi⟩
  refine (bodyK_sound hE hg hlo (callN_sound hE hg hlo n) hfn (h args r hf hp) hG hrep hr).mono ?_
  rintro e w' ⟨S', sv, M', v, k1, k2, k3, k4, k5⟩
  obtain ⟨c1, c2⟩ := onB_out k3
  subst c2
  refine ⟨v, k4, c1, R_tr ⟨fun a ds ho => ?_, fun j hj => by omega⟩ c1 k5, ?_⟩
  · unfold Old at *; rw [k1.W] at ho; exact ho
  · subst hF
    refine ⟨?_, ?_, ?_, ?_, ?_⟩
    · rw [k2.os, k1.F]
    · rw [k2.tape, k1.F]
    · rw [k2.out, k1.F]
    · have := k2.size; rw [k1.F] at this; exact this
    · intro k hk _
      have := k2.kept k (by rw [k1.F]; exact hk) (by rw [k1.g, hg']; simp)
      rw [k1.F] at this; exact this

theorem con_pureQ {E : Env} (hE : EnvOK E) (hg : GamOK E) (hlo : LoopsOK E) (n : Nat) {f : FuncId} {fn : Func} (hfn : E.P.funcs[f]? = some fn) {pre : List SV → Prop} {f' : List SV → Option SV}
    {Q : List SV → SV → Prop} (hQ : ∀ args r r', f' args = some r → Q args r' → r' = r) (h : ∀ args r, f' args = some r → pre args → bodyK E (callN E n) f fn args [] (fun r' _ => onB (r'.cl 0) (Q args r'))) : ConOK E f (.pure pre f') := by
  intro args r hf hp hc S w vs hB hF hg' hsh hG hr
  have hrep : Rep S [] w := by
    subst hF
    exact ⟨hB, by simp [hsh], Nat.le_refl _, fun _ _ _ => rfl, rfl, rfl, rfl, fun i j hi => by simp at hi, fun i hi => by simp at hi, fun i t hi => by simp at hi⟩
  refine (bodyK_sound hE hg hlo (callN_sound hE hg hlo n) hfn (h args r hf hp) hG hrep hr).mono ?_
  rintro e w' ⟨S', sv, M', v, k1, k2, k3, k4, k5⟩
  obtain ⟨c1, c2⟩ := onB_out k3
  have c2 := hQ _ _ _ hf c2
  subst c2
  refine ⟨v, k4, c1, R_tr ⟨fun a ds ho => ?_, fun j hj => by omega⟩ c1 k5, ?_⟩
  · unfold Old at *; rw [k1.W] at ho; exact ho
  · subst hF
    refine ⟨?_, ?_, ?_, ?_, ?_⟩
    · rw [k2.os, k1.F]
    · rw [k2.tape, k1.F]
    · rw [k2.out, k1.F]
    · have := k2.size; rw [k1.F] at this; exact this
    · intro k hk _
      have := k2.kept k (by rw [k1.F]; exact hk) (by rw [k1.g, hg']; simp)
      rw [k1.F] at this; exact this

theorem con_mth {E : Env} (hE : EnvOK E) (hg : GamOK E) (hlo : LoopsOK E) (n : Nat) {f : FuncId} {fn : Func} (hfn : E.P.funcs[f]? = some fn) {pt : SV → List SV → (SV → SV → Prop) → Prop} (hdt : ∀ t args, Det2 (pt t args))
    (h : ∀ t args K, pt t args K → bodyK E (callN E n) f fn (.ptr 0 [] :: args) [t] (fun r M => match M with
      | t' :: _ => onB (r.cl 0 && (t'.cl 0)) (K r t')
      | [] => False)) : ConOK E f (.mth pt) := by
  refine ⟨hdt, ?_⟩
  intro t args K hp hc hca S w b cs el vs hB hF hg' hsh hρ hb hrf hG hr
  have hblt : b < w.heap.size := (Array.getElem?_eq_some_iff.1 hb).1
  have hrep : Rep S [t] w := by
    subst hF
    refine ⟨hB, by simp [hsh], Nat.le_refl _, fun _ _ _ => rfl, rfl, rfl, rfl, fun i j hi hj _ => by simp at hi hj; omega, fun i hi => ?_, fun i u hi => ?_⟩
    · simp at hi; subst hi; left; rw [hg', hρ]
    · cases i with
      | zero => simp at hi; subst hi; exact ⟨cs, el, by rw [hρ]; exact hb, hrf⟩
      | succ i => simp at hi
  have hptr : R S (.ptr 0 []) (.pointer (some ⟨b, 0, none⟩)) := by
    show Rf S _ _
    simp only [Rf]
    exact ⟨t.shp, 0, t.shp, by simp [hsh], rfl, by rw [hρ]⟩
  refine (bodyK_sound hE hg hlo (callN_sound hE hg hlo n) hfn (h t args K hp) hG hrep (vs := (.pointer (some ⟨b, 0, none⟩) :: vs).toArray) (.cons hptr hr)).mono ?_
  rintro e w' ⟨S', sv, M', v, k1, k2, k3, k4, k5⟩
  split at k3
  · rename_i M' t' rest
    obtain ⟨c1, c2⟩ := onB_out k3
    simp at c1
    have hS0 := k1.sh 0 t.shp (by simp [hsh])
    have hsh' : t'.shp = t.shp := by
      have := hS0.1
      rw [k2.sh] at this
      simpa using this
    obtain ⟨cs', el', z1, z2⟩ := k2.blk 0 t' rfl
    have hρ' : S'.ρ 0 = b := hS0.2.trans hρ
    rw [hρ'] at z1
    have hT : Tr 0 S' S := ⟨fun a ds ho => by unfold Old at *; rw [k1.W] at ho; exact ho, fun j hj => by omega⟩
    refine ⟨sv, t', v, cs', c2, k4, c1.1, R_tr hT c1.1 k5, c1.2, hsh', ?_, Rf_tr hT t' _ c1.2 z2, ?_⟩
    · exact ⟨el', z1⟩
    · subst hF
      refine ⟨?_, ?_, ?_, ?_, ?_⟩
      · rw [k2.os, k1.F]
      · rw [k2.tape, k1.F]
      · rw [k2.out, k1.F]
      · have := k2.size; rw [k1.F] at this; exact this
      · intro k hk hne
        have := k2.kept k (by rw [k1.F]; exact hk) (by rw [k1.g, hg']; exact hne)
        rw [k1.F] at this; exact this
  · exact k3.elim

theorem con_mthQ {E : Env} (hE : EnvOK E) (hg : GamOK E) (hlo : LoopsOK E) (n : Nat) {f : FuncId} {fn : Func} (hfn : E.P.funcs[f]? = some fn) {pt : SV → List SV → (SV → SV → Prop) → Prop} (hdt : ∀ t args, Det2 (pt t args))
    (h : ∀ t args K, pt t args K → ∃ Q : SV → Mem → Prop, (∀ r M, Q r M → ∃ t' rest, M = t' :: rest ∧ r.cl 0 = true ∧ t'.cl 0 = true ∧ K r t') ∧ bodyK E (callN E n) f fn (.ptr 0 [] :: args) [t] Q) : ConOK E f (.mth pt) := by
  refine ⟨hdt, ?_⟩
  intro t args K hp hc hca S w b cs el vs hB hF hg' hsh hρ hb hrf hG hr
  have hblt : b < w.heap.size := (Array.getElem?_eq_some_iff.1 hb).1
  have hrep : Rep S [t] w := by
    subst hF
    refine ⟨hB, by simp [hsh], Nat.le_refl _, fun _ _ _ => rfl, rfl, rfl, rfl, fun i j hi hj _ => by simp at hi hj; omega, fun i hi => ?_, fun i u hi => ?_⟩
    · simp at hi; subst hi; left; rw [hg', hρ]
    · cases i with
      | zero => simp at hi; subst hi; exact ⟨cs, el, by rw [hρ]; exact hb, hrf⟩
      | succ i => simp at hi
  have hptr : R S (.ptr 0 []) (.pointer (some ⟨b, 0, none⟩)) := by
    show Rf S _ _
    simp only [Rf]
    exact ⟨t.shp, 0, t.shp, by simp [hsh], rfl, by rw [hρ]⟩
  obtain ⟨Q, hQ, hq⟩ := h t args K hp
  refine (bodyK_sound hE hg hlo (callN_sound hE hg hlo n) hfn hq hG hrep (vs := (.pointer (some ⟨b, 0, none⟩) :: vs).toArray) (.cons hptr hr)).mono ?_
  rintro e w' ⟨S', sv, M', v, k1, k2, k3, k4, k5⟩
  obtain ⟨t', rest, rfl, c1, c3, c2⟩ := hQ _ _ k3
  · have hS0 := k1.sh 0 t.shp (by simp [hsh])
    have hsh' : t'.shp = t.shp := by
      have := hS0.1
      rw [k2.sh] at this
      simpa using this
    obtain ⟨cs', el', z1, z2⟩ := k2.blk 0 t' rfl
    have hρ' : S'.ρ 0 = b := hS0.2.trans hρ
    rw [hρ'] at z1
    have hT : Tr 0 S' S := ⟨fun a ds ho => by unfold Old at *; rw [k1.W] at ho; exact ho, fun j hj => by omega⟩
    refine ⟨sv, t', v, cs', c2, k4, c1, R_tr hT c1 k5, c3, hsh', ?_, Rf_tr hT t' _ c3 z2, ?_⟩
    · exact ⟨el', z1⟩
    · subst hF
      refine ⟨?_, ?_, ?_, ?_, ?_⟩
      · rw [k2.os, k1.F]
      · rw [k2.tape, k1.F]
      · rw [k2.out, k1.F]
      · have := k2.size; rw [k1.F] at this; exact this
      · intro k hk hne
        have := k2.kept k (by rw [k1.F]; exact hk) (by rw [k1.g, hg']; exact hne)
        rw [k1.F] at this; exact this

end Go.Sx

namespace Go.Sx
open Go.RowKit (Below)
set_option linter.unusedVariables false
set_option linter.unusedSimpArgs false

def inK (k : IntKind) (n : Int) : Prop := k.min ≤ n ∧ n ≤ k.max

def IsF (is : TypeId → SV → Prop) : List Field → SVs → Prop
  | [], l => l = .nil
  | f :: fl, l => ∃ a r, l = .cons a r ∧ is f.type a ∧ IsF is fl r

/-- A value that an argument of a type may be. -/
def Is (P : Program) : Nat → TypeId → SV → Prop
  | 0, _, _ => False
  | d + 1, T, sv =>
    match P.underlying T with
    | some .bool => ∃ b, sv = .b b
    | some (.int k) => ∃ n, sv = .i k n ∧ inK k n
    | some (.struct fs) => ∃ l, sv = .agg l ∧ IsF (Is P d) fs.toList l
    | some (.array n e) => (match P.underlying e with
      | some (.int k) => ∃ xs, sv = .arr k n xs ∧ xs.length = n ∧ ∀ x ∈ xs, inK k x
      | _ => False)
    | some (.slice e) => (match P.underlying e with
      | some (.int k) => ∃ xs, sv = .roi k xs ∧ xs.length ≤ maxLen ∧ ∀ x ∈ xs, inK k x
      | _ => ∃ n g, sv = .ros n g ∧ n ≤ maxLen ∧ ∀ j, j < n → Is P d e (g j))
    | _ => False

def okFs (P : Program) (ok : TypeId → Bool) : List Field → Nat → Option Nat
  | [], o => some o
  | f :: fl, o => match Nat.beq f.offset o && ok f.type with
    | true => okFs P ok fl (o + P.cellsOf f.type)
    | false => none

def okT (P : Program) : Nat → TypeId → Bool
  | 0, _ => false
  | d + 1, T =>
    match P.underlying T with
    | some .bool => true
    | some (.int _) => true
    | some (.struct fs) => (match okFs P (okT P d) fs.toList 0 with
      | some n => Nat.beq n (P.cellsOf T)
      | none => false)
    | some (.array n e) => (match P.underlying e with
      | some (.int _) => Nat.beq (P.cellsOf e) 1 && Nat.beq (P.cellsOf T) n
      | _ => false)
    | some (.slice e) => (match P.underlying e with
      | some (.int _) => Nat.beq (P.cellsOf e) 1
      | some _ => okT P d e && !Nat.beq (P.cellsOf e) 0
      | none => false)
    | _ => false

section
variable {H : Type} {enc : TypeId × Value → H} {P : Program} {w : World} {spare : Nat → Bool} {held : Bool}

theorem mapM_get {α β : Type} {f : α → Option β} {l : List α} {r : List β} (h : l.mapM f = some r) : r.length = l.length ∧ ∀ (i : Nat) (a : α), l[i]? = some a → ∃ b, f a = some b ∧ r[i]? = some b := by
  refine ⟨mapM_some_length h, fun i a ha => ?_⟩
  have h1 := mapM_some_get h i a ha
  have hl := mapM_some_length h
  cases hr : r[i]? with
  | none =>
    have : i < l.length := by
      rcases Nat.lt_or_ge i l.length with h | h
      · exact h
      · simp [List.getElem?_eq_none h] at ha
    have := List.getElem?_eq_none_iff.1 hr; omega
  | some b => exact ⟨b, by rw [h1, hr], rfl⟩

theorem trod_succ {fuel : Nat} {T : TypeId} {cs : List Value} {x : DataW H × List MemPlace} (h : DataW.trod enc P w 0 spare held fuel T cs = some x) : ∃ m, fuel = m + 1 := by
  cases fuel with
  | zero => simp [DataW.trod] at h
  | succ m => exact ⟨m, rfl⟩

theorem trod_intCell {fuel : Nat} {T : TypeId} {k : IntKind} {cs : List Value} {x : DataW H × List MemPlace} (hu : P.underlying T = some (.int k)) (h : DataW.trod enc P w 0 spare held fuel T cs = some x) :
    ∃ n, cs = [.int k n] ∧ inK k n := by
  obtain ⟨m, rfl⟩ := trod_succ h
  unfold DataW.trod at h
  simp only [hu] at h
  split at h
  all_goals (first | (simp at h; done) | skip)
  all_goals (try (rename_i hh _; simp at hh; done))
  all_goals (try (rename_i hh; simp at hh; done))
  rename_i k1 k2 n hh
  simp at hh; subst hh
  split at h
  · rename_i hq
    obtain ⟨rfl, hq⟩ := hq
    simp [Lit.wf] at hq
    exact ⟨n, rfl, hq.1, hq.2⟩
  · simp at h

theorem trod_boolCell {fuel : Nat} {T : TypeId} {cs : List Value} {x : DataW H × List MemPlace} (hu : P.underlying T = some .bool) (h : DataW.trod enc P w 0 spare held fuel T cs = some x) :
    ∃ b, cs = [.bool b] := by
  obtain ⟨m, rfl⟩ := trod_succ h
  unfold DataW.trod at h
  simp only [hu] at h
  split at h
  all_goals (first | (simp at h; done) | skip)
  all_goals (try (rename_i hh _; simp at hh; done))
  all_goals (try (rename_i hh; simp at hh; done))
  exact ⟨_, rfl⟩

theorem trod_fields {fuel : Nat} {T : TypeId} {fs : Array Field} {cs : List Value} {x : DataW H × List MemPlace} (hu : P.underlying T = some (.struct fs)) (h : DataW.trod enc P w 0 spare held (fuel + 1) T cs = some x) :
    cs.length = P.cellsOf T ∧ ∃ xs, fs.toList.mapM (fun f => DataW.trod enc P w 0 spare held fuel f.type ((cs.drop f.offset).take (P.cellsOf f.type))) = some xs := by
  unfold DataW.trod at h
  simp only [hu] at h
  split at h
  all_goals (first | (simp at h; done) | skip)
  all_goals (try (rename_i hh _; simp at hh; done))
  all_goals (try (rename_i hh; simp at hh; done))
  rename_i hl
  simp at h
  obtain ⟨xs, hx, _⟩ := h
  exact ⟨hl, xs, hx⟩

theorem trod_slice {fuel : Nat} {T e : TypeId} {cs : List Value} {x : DataW H × List MemPlace} (hu : P.underlying T = some (.slice e)) (h : DataW.trod enc P w 0 spare held (fuel + 1) T cs = some x) :
    cs = [.slice none 0 0] ∨ ∃ a len cap, cs = [.slice (some a) len cap] ∧ len ≤ cap ∧ cap ≤ maxLen ∧
      ∀ j, j < len → ∃ ds y, w.cells? 0 (a.add (j * P.cellsOf e)) (P.cellsOf e) = some ds ∧ DataW.trod enc P w 0 spare held fuel e ds = some y := by
  unfold DataW.trod at h
  simp only [hu] at h
  split at h
  all_goals (first | (simp at h; done) | skip)
  all_goals (try (rename_i hh _; simp at hh; done))
  all_goals (try (rename_i hh; simp at hh; done))
  · exact .inl rfl
  · rename_i e' a len cap hh
    simp at hh; subst hh
    right
    split at h
    · rename_i hq
      refine ⟨a, len, cap, rfl, hq.2.1, hq.2.2, fun j hj => ?_⟩
      simp only [Option.bind_eq_some_iff] at h
      obtain ⟨elems, h1, _⟩ := h
      obtain ⟨_, h2⟩ := mapM_get h1
      obtain ⟨b, hb, _⟩ := h2 j j (by simp [hj])
      simp only [Option.bind_eq_some_iff] at hb
      obtain ⟨ds, d1, d2⟩ := hb
      exact ⟨ds, b, d1, d2⟩
    · simp at h

theorem okFs_le {ok : TypeId → Bool} : ∀ (fl : List Field) (o n : Nat), okFs P ok fl o = some n → o ≤ n
  | [], o, n, h => by simp [okFs] at h; omega
  | f :: fl, o, n, h => by
    simp only [okFs] at h
    split at h
    · have := okFs_le fl _ _ h; omega
    · simp at h

theorem open_fields {S : Sig} {is : TypeId → SV → Prop} {ok : TypeId → Bool} {fuel : Nat}
    (hi : ∀ T cs x, ok T = true → DataW.trod enc P w 0 spare held fuel T cs = some x → ∃ sv, is T sv ∧ Rf S sv cs ∧ sv.cl 0 = true) :
    ∀ (fl : List Field) (o n : Nat) (cs : List Value) (xs : List (DataW H × List MemPlace)), okFs P ok fl o = some n → cs.length = n →
      fl.mapM (fun f => DataW.trod enc P w 0 spare held fuel f.type ((cs.drop f.offset).take (P.cellsOf f.type))) = some xs → ∃ l, IsF is fl l ∧ Rfs S l (cs.drop o) ∧ l.cl 0 = true
  | [], o, n, cs, xs, h1, h2, h3 => by
    simp [okFs] at h1; subst h1
    exact ⟨.nil, rfl, by simp [Rfs, ← h2], rfl⟩
  | f :: fl, o, n, cs, xs, h1, h2, h3 => by
    simp only [okFs] at h1
    split at h1
    · rename_i hq
      simp at hq
      obtain ⟨q1, q2⟩ := hq
      simp only [List.mapM_cons, Option.bind_eq_bind, Option.bind_eq_some_iff] at h3
      obtain ⟨b, hb, r', hr, h⟩ := h3
      obtain ⟨sv, s1, s2, s3⟩ := hi _ _ _ q2 hb
      obtain ⟨l, l1, l2, l3⟩ := open_fields hi fl _ n cs r' h1 h2 hr
      have hle := okFs_le fl _ _ h1
      refine ⟨.cons sv l, ⟨sv, l, rfl, s1, l1⟩, ?_, by simp [SVs.cl, s3, l3]⟩
      simp only [Rfs]
      rw [q1] at s2
      refine ⟨_, _, ?_, s2, l2⟩
      have := (List.take_append_drop (P.cellsOf f.type) (cs.drop o)).symm
      rw [List.drop_drop] at this; exact this
    · simp at h1

theorem cells_old {a : Addr} {n : Nat} {ds : List Value} {S : Sig} (hW : S.W = w) (hn : n ≠ 0) (h : w.cells? 0 a n = some ds) : Old S a ds := by
  obtain ⟨_, h2, h3⟩ := World.cells?_some h
  refine ⟨?_, fun j v hj => ?_⟩
  · have := h3 0 (by omega)
    have h0 : a.add 0 = a := by simp [Addr.add]
    rw [h0] at this
    rw [hW]
    exact block_lt_of_cell (by rw [this]; exact List.getElem?_eq_getElem (by omega))
  · have hlt : j < n := by
      rcases Nat.lt_or_ge j ds.length with h | h
      · omega
      · simp [List.getElem?_eq_none h] at hj
    rw [hW, h3 j hlt]; exact hj

theorem open_cells {S : Sig} (hW : S.W = w) : ∀ (d : Nat) (T : TypeId) (fuel : Nat) (cs : List Value) (x : DataW H × List MemPlace), okT P d T = true → DataW.trod enc P w 0 spare held fuel T cs = some x →
    ∃ sv, Is P d T sv ∧ Rf S sv cs ∧ sv.cl 0 = true
  | 0, T, fuel, cs, x, h, hx => by simp [okT] at h
  | d + 1, T, fuel, cs, x, h, hx => by
    simp only [okT] at h
    simp only [Is]
    cases hu : P.underlying T with
    | none => simp [hu] at h
    | some u =>
      cases u <;> simp only [hu] at h <;> (try (simp at h; done))
      · obtain ⟨b, rfl⟩ := trod_boolCell hu hx
        exact ⟨.b b, ⟨b, rfl⟩, by simp [Rf], rfl⟩
      · rename_i k
        obtain ⟨n, rfl, hn⟩ := trod_intCell hu hx
        exact ⟨.i k n, ⟨n, rfl, hn⟩, by simp [Rf], rfl⟩
      · rename_i e
        obtain ⟨m, rfl⟩ := trod_succ hx
        have hs := trod_slice hu hx
        split at h
        · rename_i k hk
          simp at h
          rcases hs with rfl | ⟨a, len, cap, rfl, h1, h2, h3⟩
          · exact ⟨.roi k [], by simp [hk, maxLen], by simp [Rf], rfl⟩
          · have hel : ∀ j, j < len → ∃ n, inK k n ∧ w.cell? (a.add j) = some (.int k n) := by
              intro j hj
              obtain ⟨ds, y, d1, d2⟩ := h3 j hj
              obtain ⟨n, rfl, hn⟩ := trod_intCell hk d2
              rw [h, Nat.mul_one] at d1
              obtain ⟨_, _, d3⟩ := World.cells?_some d1
              have := d3 0 (by omega)
              rw [Addr.add_add] at this
              exact ⟨n, hn, by simpa using this⟩
            let f : Nat → Int := fun j => if hj : j < len then (hel j hj).choose else 0
            have hf : ∀ j (hj : j < len), inK k (f j) ∧ w.cell? (a.add j) = some (.int k (f j)) := by
              intro j hj
              have := (hel j hj).choose_spec
              simp only [f, dif_pos hj]; exact this
            refine ⟨.roi k ((List.range len).map f), ?_, ?_, rfl⟩
            · simp only [hk]
              refine ⟨_, rfl, by simp; omega, ?_⟩
              intro y hy
              simp at hy
              obtain ⟨j, hj, rfl⟩ := hy
              exact (hf j hj).1
            · simp only [Rf]
              refine ⟨some a, cap, by simpa using h1, by simp, by simp, fun a' e => ?_⟩
              simp at e; subst e
              rcases Nat.eq_zero_or_pos len with h0 | h0
              · left; simp [h0]
              · right
                refine ⟨?_, fun j v hj => ?_⟩
                · have := (hf 0 h0).2
                  rw [show a.add 0 = a by simp [Addr.add]] at this
                  rw [hW]; exact block_lt_of_cell this
                · have hlt : j < len := by
                    rcases Nat.lt_or_ge j len with h | h
                    · exact h
                    · rw [List.getElem?_eq_none (by simpa using h)] at hj; simp at hj
                  simp [hlt] at hj
                  rw [hW, (hf j hlt).2, hj]
        · rename_i u' hnk hk
          simp at h
          have hz : P.cellsOf e ≠ 0 := nbeq0 h.2
          have ih := open_cells (S := S) hW d e m
          have fin : ∀ (n : Nat) (g : Nat → SV), n ≤ maxLen → (∀ j, j < n → Is P d e (g j)) → (match P.underlying e with
              | some (.int k) => ∃ xs, SV.ros n g = .roi k xs ∧ xs.length ≤ maxLen ∧ ∀ x ∈ xs, inK k x
              | _ => ∃ n' g', SV.ros n g = .ros n' g' ∧ n' ≤ maxLen ∧ ∀ j, j < n' → Is P d e (g' j)) := by
            intro n g h1 h2
            cases u' <;> simp only [hk] <;> first
              | exact ⟨n, g, rfl, h1, h2⟩
              | exact (hnk _ hk).elim
              | exact (hnk _ rfl).elim
          rcases hs with rfl | ⟨a, len, cap, rfl, h1, h2, h3⟩
          · exact ⟨.ros 0 (fun _ => .nilp), fin 0 _ (by simp [maxLen]) (fun j hj => by omega), by simp [Rf], rfl⟩
          · have hel : ∀ j, j < len → ∃ sv ds, Is P d e sv ∧ Rf S sv ds ∧ sv.cl 0 = true ∧ w.cells? 0 (a.add (j * P.cellsOf e)) (P.cellsOf e) = some ds := by
              intro j hj
              obtain ⟨ds, y, d1, d2⟩ := h3 j hj
              obtain ⟨sv, s1, s2, s3⟩ := ih ds y h.1 d2
              exact ⟨sv, ds, s1, s2, s3, d1⟩
            let g : Nat → SV := fun j => if hj : j < len then (hel j hj).choose else .nilp
            have hg : ∀ j (hj : j < len), ∃ ds, Is P d e (g j) ∧ Rf S (g j) ds ∧ (g j).cl 0 = true ∧ w.cells? 0 (a.add (j * P.cellsOf e)) (P.cellsOf e) = some ds := by
              intro j hj
              have := (hel j hj).choose_spec
              simp only [g, dif_pos hj]; exact this
            refine ⟨.ros len g, fin len g (by omega) (fun j hj => (hg j hj).choose_spec.1), ?_, rfl⟩
            simp only [Rf]
            refine ⟨some a, cap, h1, rfl, by simp, fun j hj => ?_⟩
            obtain ⟨ds, z1, z2, z3, z4⟩ := hg j hj
            refine ⟨z3, ds, z2, fun a' e' => ?_⟩
            simp at e'; subst e'
            have hsz : (g j).size = P.cellsOf e := by rw [← Rf_len _ _ z2, (World.cells?_some z4).2.1]
            rw [hsz]
            exact cells_old hW hz z4
        · simp at h
      · rename_i n e
        split at h
        · rename_i k hk
          simp at h
          obtain ⟨h1, h2⟩ := h
          obtain ⟨xs, m, rfl, _, hl, hx1, hx2⟩ := DataW.trod_array hu hx
          have hel : ∀ j, j < n → ∃ v, inK k v ∧ cs[j]? = some (.int k v) := by
            intro j hj
            have := hx2 j hj
            rw [List.getElem?_eq_getElem (by omega)] at this
            obtain ⟨v, e1, e2⟩ := trod_intCell hk this
            refine ⟨v, e2, ?_⟩
            have h0 := congrArg (fun l => l[0]?) e1
            rw [h1, Nat.mul_one, List.getElem?_take] at h0
            simpa using h0
          let f : Nat → Int := fun j => if hj : j < n then (hel j hj).choose else 0
          have hf : ∀ j (hj : j < n), inK k (f j) ∧ cs[j]? = some (.int k (f j)) := by
            intro j hj
            have := (hel j hj).choose_spec
            simp only [f, dif_pos hj]; exact this
          refine ⟨.arr k n ((List.range n).map f), ?_, ?_, rfl⟩
          · simp only [hk]
            refine ⟨_, rfl, by simp, ?_⟩
            intro y hy
            simp at hy
            obtain ⟨j, hj, rfl⟩ := hy
            exact (hf j hj).1
          · simp only [Rf]
            refine ⟨by simp, ?_⟩
            apply List.ext_getElem?
            intro j
            by_cases hj : j < n
            · rw [(hf j hj).2]; simp [hj]
            · rw [List.getElem?_eq_none (by omega), List.getElem?_eq_none (by simp; omega)]
        · simp at h
      · rename_i fs
        obtain ⟨m, rfl⟩ := trod_succ hx
        obtain ⟨hl, xs, hm⟩ := trod_fields hu hx
        split at h
        · rename_i n hn
          simp at h
          obtain ⟨l, l1, l2, l3⟩ := open_fields (S := S) (is := Is P d) (ok := okT P d) (fun T cs x => open_cells hW d T m cs x) fs.toList 0 n cs xs hn (by omega) hm
          exact ⟨.agg l, ⟨l, rfl, l1⟩, by simpa [Rf] using l2, by simpa [SV.cl] using l3⟩
        · simp at h

end

/-- An argument that reads as data is one of the symbolic values of its type. -/
theorem open_arg {H : Type} {enc : TypeId × Value → H} {P : Program} {w : World} {spare : Nat → Bool} {held : Bool} {S : Sig} {T : TypeId} {v : Value} {dd : DataW H} {ps : List MemPlace} {base : Nat} (hW : S.W = w) (d : Nat) (ht : okT P d T = true)
    (hv : Value.okWide P w .any base T v) (h : DataW.Trod enc P w 0 spare held T v dd ps) : ∃ sv, Is P d T sv ∧ R S sv v ∧ sv.cl 0 = true := by
  obtain ⟨fuel, h⟩ := h
  obtain ⟨sv, h1, h2, h3⟩ := open_cells hW d T fuel _ _ ht h
  refine ⟨sv, h1, R_of_R1 ?_, h3⟩
  cases d with
  | zero => exact h1.elim
  | succ d =>
    simp only [Is] at h1
    unfold Value.okWide at hv
    cases hu : P.underlying T with
    | none => simp [hu] at h1
    | some u =>
      rw [hu] at h1 hv
      have agg : (∃ cs, v = .agg cs) → sv.isA = true → R1 S sv v := by
        rintro ⟨cs, rfl⟩ hA
        have := R1_agg h2 hA
        simpa [Value.cells] using this
      have sc : sv.isA = false → (∀ cs, v ≠ .agg cs) → R1 S sv v := by
        intro hA hne
        obtain ⟨u, hu, _, hc⟩ := Rf_sc h2 hA
        have : v = u := by
          cases v <;> simp [Value.cells] at hu <;> first
            | exact hu
            | exact (hne _ rfl).elim
        subst this
        refine R1_sc ?_ hA
        rw [← hu]; exact h2
      cases u <;> simp only at h1 hv <;> (try exact h1.elim)
      · obtain ⟨b, rfl⟩ := h1
        refine sc rfl ?_
        rintro cs rfl
        simp [Cell.okWide, Cell.ok, hu] at hv
      · obtain ⟨n, rfl, _⟩ := h1
        refine sc rfl ?_
        rintro cs rfl
        simp [Cell.okWide, Cell.ok, hu] at hv
      · have hA : sv.isA = false := by
          split at h1
          · obtain ⟨xs, rfl, _⟩ := h1; rfl
          · obtain ⟨n, g, rfl, _⟩ := h1; rfl
        refine sc hA ?_
        rintro cs rfl
        simp [Cell.okWide, Cell.ok, hu] at hv
      · have hA : sv.isA = true := by
          split at h1
          · obtain ⟨xs, rfl, _⟩ := h1; rfl
          · exact h1.elim
        obtain ⟨cs, e, _⟩ := hv
        exact agg ⟨cs, e⟩ hA
      · obtain ⟨l, rfl, _⟩ := h1
        obtain ⟨cs, e, _⟩ := hv
        exact agg ⟨cs, e⟩ rfl

end Go.Sx

namespace Go.Sx
open Go.RowKit (Below)
set_option linter.unusedVariables false
set_option linter.unusedSimpArgs false

def S0 (W : World) : Sig := { W := W, F := W, g := none, ρ := id, sh := [] }

theorem S0_base (W : World) : Base (S0 W) := ⟨Nat.le_refl _, fun _ _ => rfl, fun b h => by simp [S0] at h⟩
theorem S0_rep (W : World) : Rep (S0 W) [] W :=
  ⟨S0_base W, rfl, Nat.le_refl _, fun _ _ _ => rfl, rfl, rfl, rfl, fun i j hi => by simp at hi, fun i hi => by simp at hi, fun i t hi => by simp at hi⟩

def isTrue : SV → Prop
  | .b x => x = true
  | _ => False

theorem law_sound {E : Env} (hE : EnvOK E) (hg : GamOK E) (hlo : LoopsOK E) (n : Nat) {f : FuncId} {fn : Func} (hfn : E.P.funcs[f]? = some fn) {args : List SV} {vs : Array Value} {W : World} (hG : Glob E (S0 W)) (hr : All2 (R (S0 W)) args vs.toList)
    (hk : bodyK E (callN E n) f fn args [] (fun r _ => isTrue r)) : Calls E.P f vs W fun e w' => e = .returned (.bool true) ∧ Below W.heap.size W w' := by
  refine (bodyK_sound hE hg hlo (callN_sound hE hg hlo n) hfn hk hG (S0_rep W) hr).mono ?_
  rintro e w' ⟨S', sv, M', v, k1, k2, k3, k4, k5⟩
  subst k4
  have hv : v = .bool true := by
    cases sv <;> simp [isTrue] at k3
    subst k3
    exact R_b k5
  subst hv
  refine ⟨rfl, ?_⟩
  have hF : S'.F = W := by rw [k1.F]; rfl
  have hgn : S'.g = none := by rw [k1.g]; rfl
  refine ⟨?_, ?_, ?_, ?_, ?_⟩
  · rw [k2.os, hF]
  · rw [k2.tape, hF]
  · rw [k2.out, hF]
  · have := k2.size; rw [hF] at this; exact this
  · intro k hk
    have := k2.kept k (by rw [hF]; exact hk) (by rw [hgn]; simp)
    rw [hF] at this; exact this

/-- Contracts one after the other. -/
theorem GamOK.none {E : Env} (h : E.gam = fun _ => Option.none) : GamOK E := by intro f c e; rw [h] at e; simp at e

theorem ConOK.env {E E' : Env} (hP : E.P = E'.P) (hg : E.glob = E'.glob) {f : FuncId} {c : Con} (h : ConOK E f c) : ConOK E' f c := by
  cases E; cases E'; subst hP; subst hg; exact h

/-! ### Tables -/
def lookN {α : Type} : List (Nat × α) → Nat → Option α
  | [], _ => none
  | (m, x) :: l, n => match Nat.beq m n with
    | true => some x
    | false => lookN l n

def allN' {α : Type} (p : Nat → α → Prop) : List (Nat × α) → Prop
  | [] => True
  | (m, x) :: l => p m x ∧ allN' p l

theorem lookN_all {α : Type} {p : Nat → α → Prop} : ∀ {l : List (Nat × α)} {n : Nat} {x : α}, allN' p l → lookN l n = some x → p n x
  | [], n, x, _, h => by simp [lookN] at h
  | (m, y) :: l, n, x, ha, h => by
    simp only [lookN] at h
    split at h
    · rename_i e
      simp at h; subst h
      have := Nat.eq_of_beq_eq_true e; subst this
      exact ha.1
    · exact lookN_all ha.2 h

/-- The one loop of a function that begins with region id. -/
def codeL (fn : Func) (id : Nat) : Code := match fn.body with
  | some c => (match (loopsOf c).filter (fun x => Nat.beq x.1 id) with
    | [x] => x.2
    | _ => .skip)
  | none => .skip
def oneL (fn : Func) (id : Nat) : Bool := match fn.body with
  | some c => (match (loopsOf c).filter (fun x => Nat.beq x.1 id) with
    | [_] => true
    | _ => false)
  | none => false

theorem codeL_spec {fn : Func} {id : Nat} {c : Code} (h : oneL fn id = true) (hb : fn.body = some c) {x : Nat × Code} (hx : x ∈ loopsOf c) (hi : x.1 = id) : x.2 = codeL fn id := by
  have hm : x ∈ (loopsOf c).filter (fun x => Nat.beq x.1 id) := by
    rw [List.mem_filter]; exact ⟨hx, by rw [hi]; exact Nat.beq_refl id⟩
  unfold oneL at h
  unfold codeL
  rw [hb] at h ⊢
  dsimp only at h ⊢
  generalize (loopsOf c).filter (fun x => Nat.beq x.1 id) = l at *
  match l, h, hm with
  | [y], _, hm =>
    simp at hm; subst hm; rfl

def lookL2 : List (Nat × Nat × LCon) → FuncId → Nat → Option LCon
  | [], _, _ => none
  | (f', i', l') :: r, f, i => match Nat.beq f' f && Nat.beq i' i with
    | true => some l'
    | false => lookL2 r f i
theorem lookL2_mem : ∀ {t : List (Nat × Nat × LCon)} {f i : Nat} {l : LCon}, lookL2 t f i = some l → (f, i, l) ∈ t
  | [], f, i, l, h => by simp [lookL2] at h
  | (f', i', l') :: r, f, i, l, h => by
    simp only [lookL2] at h
    split at h
    · rename_i e
      simp at h; subst h
      rw [Bool.and_eq_true] at e
      have e1 := Nat.eq_of_beq_eq_true e.1
      have e2 := Nat.eq_of_beq_eq_true e.2
      subst e1; subst e2; simp
    · exact List.mem_cons_of_mem _ (lookL2_mem h)

def LoopIn (E : Env) (x : Nat × Nat × LCon) : Prop := ∃ fn, E.P.funcs[x.1]? = some fn ∧ oneL fn x.2.1 = true ∧ LoopSem E fn.ntmps (codeL fn x.2.1) x.2.2
def allL (p : Nat × Nat × LCon → Prop) : List (Nat × Nat × LCon) → Prop
  | [] => True
  | x :: l => p x ∧ allL p l
theorem allL_mem {p : Nat × Nat × LCon → Prop} : ∀ {l : List (Nat × Nat × LCon)} {x}, allL p l → x ∈ l → p x
  | y :: l, x, h, hx => by
    rcases List.mem_cons.1 hx with rfl | hx
    · exact h.1
    · exact allL_mem h.2 hx

theorem loops_ok {E : Env} {t : List (Nat × Nat × LCon)} (hl : E.loop = lookL2 t) (h : allL (LoopIn E) t) : LoopsOK E := by
  intro f fn c hf hb x hx l e
  rw [hl] at e
  obtain ⟨fn', h1, h2, h3⟩ := allL_mem h (lookL2_mem e)
  rw [hf] at h1; simp at h1; subst h1
  rw [codeL_spec h2 hb hx rfl]; exact h3

mutual
def SV.flat : SV → List Value
  | .b x => [.bool x]
  | .i k n => [.int k n]
  | .nilp => [.pointer none]
  | .nili => [.nilIface]
  | .nilf => [.nilFunc]
  | .nils => [.slice none 0 0]
  | .agg fs => fs.flat
  | .arr k n xs => xs.map (.int k)
  | _ => []
def SVs.flat : SVs → List Value
  | .nil => []
  | .cons a l => a.flat ++ l.flat
end
mutual
def SV.isFlat : SV → Bool
  | .b _ => true
  | .i .. => true
  | .nilp => true
  | .nili => true
  | .nilf => true
  | .nils => true
  | .agg fs => fs.isFlat
  | .arr k n xs => Nat.beq xs.length n
  | _ => false
def SVs.isFlat : SVs → Bool
  | .nil => true
  | .cons a l => a.isFlat && l.isFlat
end
mutual
theorem Rf_flat {S : Sig} : ∀ (z : SV), z.isFlat = true → Rf S z z.flat
  | .agg fs, h => by simp only [SV.isFlat] at h; simp only [Rf, SV.flat]; exact Rfs_flat fs h
  | .arr k n xs, h => by simp only [SV.isFlat] at h; simp only [Rf, SV.flat, and_true]; exact Nat.eq_of_beq_eq_true h
  | .b _, _ | .i .., _ | .nilp, _ | .nili, _ | .nilf, _ | .nils, _ => by simp [Rf, SV.flat]
  | .ptr .., h | .cptr _, h | .fn _, h | .ifc .., h | .sl .., h | .roi .., h | .ros .., h | .sln _, h | .tup _, h => by simp [SV.isFlat] at h
theorem Rfs_flat {S : Sig} : ∀ (z : SVs), z.isFlat = true → Rfs S z z.flat
  | .nil, _ => by simp [Rfs, SVs.flat]
  | .cons a l, h => by
    simp only [SVs.isFlat, Bool.and_eq_true] at h
    simp only [Rfs, SVs.flat]
    exact ⟨_, _, rfl, Rf_flat a h.1, Rfs_flat l h.2⟩
end

def SV.toV (z : SV) : Value := match z.isA with
  | true => .agg z.flat.toArray
  | false => z.flat.headD .nilFunc

theorem R1_flat {S : Sig} {z : SV} (h : z.isFlat = true) : R1 S z z.toV := by
  have hr := Rf_flat (S := S) z h
  unfold SV.toV
  cases hA : z.isA with
  | true => exact R1_agg hr hA
  | false =>
    obtain ⟨u, hu, _⟩ := Rf_sc hr hA
    refine R1_sc ?_ hA
    rw [hu] at hr ⊢
    exact hr

/-- A table of the zero values. -/
theorem zeros_ok {P : Program} {l : List (Nat × SV)} (h : allN' (fun T z => ((P.info? T).bind (·.zero)) = some z.toV ∧ z.isFlat = true) l) :
    ∀ T z, lookN l T = some z → ∃ i v, P.info? T = some i ∧ i.zero = some v ∧ ∀ S, R1 S z v := by
  intro T z hz
  obtain ⟨h1, h2⟩ := lookN_all h hz
  cases hi : P.info? T with
  | none => simp [hi] at h1
  | some i =>
    rw [hi] at h1
    exact ⟨i, _, rfl, h1, fun S => R1_flat h2⟩

theorem gam_ok {E : Env} {l : List (Nat × Con)} (hg : E.gam = lookN l) (h : allN' (fun f c => ConOK E f c) l) : GamOK E := by
  intro f c e
  rw [hg] at e
  exact lookN_all h e

end Go.Sx

namespace Go.Sx
open Go.RowKit (Below)
set_option linter.unusedVariables false
set_option linter.unusedSimpArgs false

def IsL (P : Program) (d : Nat) : List TypeId → List SV → Prop
  | [], l => l = []
  | t :: ts, l => ∃ s r, l = s :: r ∧ Is P d t s ∧ IsL P d ts r

theorem open_args {H : Type} {enc : TypeId × Value → H} {P : Program} {w : World} {spare : Nat → Bool} {held : Bool} {S : Sig} {base : Nat} (hW : S.W = w) (d : Nat) :
    ∀ (ts : List TypeId) (vs : List Value) (ds : List (DataW H)) (ps : List MemPlace), ts.all (okT P d) = true → (∀ (j : Nat) t v, ts[j]? = some t → vs[j]? = some v → Value.okWide P w .any base t v) →
      DataW.TrodAll enc P w 0 spare held ts vs ds ps → ∃ svs, IsL P d ts svs ∧ All2 (R S) svs vs ∧ clAll 0 svs = true
  | [], vs, ds, ps, ht, hv, h => by
    obtain ⟨rfl, rfl, rfl⟩ := ChangeShapes.trodAll_nil h
    exact ⟨[], rfl, .nil, rfl⟩
  | t :: ts, vs, ds, ps, ht, hv, h => by
    obtain ⟨v, vs', dd, ds', p, q, rfl, rfl, rfl, h1, h2⟩ := ChangeShapes.trodAll_cons h
    simp only [List.all_cons, Bool.and_eq_true] at ht
    obtain ⟨sv, a1, a2, a3⟩ := open_arg (S := S) hW d ht.1 (hv 0 t v rfl rfl) h1
    obtain ⟨svs, b1, b2, b3⟩ := open_args hW d ts vs' ds' q ht.2 (fun j t' v' e1 e2 => hv (j + 1) t' v' e1 e2) h2
    exact ⟨sv :: svs, ⟨sv, svs, rfl, a1, b1⟩, .cons a2 b2, by simp [clAll, a3, b3]⟩

theorem trodAll_len {H : Type} {enc : TypeId × Value → H} {P : Program} {w : World} {b : Nat} {spare : Nat → Bool} {held : Bool} : ∀ {ts : List TypeId} {vs : List Value} {ds : List (DataW H)} {ps : List MemPlace},
    DataW.TrodAll enc P w b spare held ts vs ds ps → ds.length = ts.length
  | [], vs, ds, ps, h => by
    obtain ⟨rfl, rfl, rfl⟩ := ChangeShapes.trodAll_nil h
    rfl
  | t :: ts, vs, ds, ps, h => by
    obtain ⟨v, vs', dd, ds', p, q, rfl, rfl, rfl, h1, h2⟩ := ChangeShapes.trodAll_cons h
    simp [trodAll_len h2]

theorem shut_args {H : Type} {enc : TypeId × Value → H} {P : Program} (hl : laidOutB P = true) {W W' : World} (hb : Below W.heap.size W W') :
    ∀ (ts : List TypeId) (vs : List Value) (ds : List (DataW H)) (ps : List MemPlace), ts.all (fun t => P.readableRec t && decide (t < P.types.size)) = true →
      (∀ x ∈ ps, x.block < W.heap.size) → DataW.TrodAll enc P W 0 (fun _ => true) true ts vs ds ps → DataW.TrodAll enc P W' 0 (fun b => decide (b < W.heap.size)) true ts vs ds ps
  | [], vs, ds, ps, ht, hlt, h => by
    obtain ⟨rfl, rfl, rfl⟩ := ChangeShapes.trodAll_nil h
    exact ChangeShapes.trodAll_mk0
  | t :: ts, vs, ds, ps, ht, hlt, h => by
    obtain ⟨v, vs', dd, ds', p, q, rfl, rfl, rfl, h1, h2⟩ := ChangeShapes.trodAll_cons h
    simp only [List.all_cons, Bool.and_eq_true, decide_eq_true_eq] at ht
    exact trodAll_cons_mk (Below.trod hl ht.1.1 ht.1.2 h1 hb fun x hx => hlt x (by simp [hx]))
      (shut_args hl hb ts vs' ds' q (by simpa using ht.2) (fun x hx => hlt x (by simp [hx])) h2)

end Go.Sx
