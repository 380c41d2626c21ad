/- Sx9: every operation: what the evaluator says of it the model does. -/
import Derived.Test.YtmgaphghjhbhhaaSx8
namespace Go.Sx
open Go.RowKit (Below)
set_option linter.unusedVariables false
set_option linter.unusedSimpArgs false

inductive All2 (r : SV → Value → Prop) : List SV → List Value → Prop
  | nil : All2 r [] []
  | cons {a : SV} {b : Value} {l : List SV} {m : List Value} : r a b → All2 r l m → All2 r (a :: l) (b :: m)

def Glob (E : Env) (S : Sig) : Prop := ∀ g t, E.glob g = some t → ∃ ds, t.cl 0 = true ∧ Rf S t ds ∧ Old S ⟨g, 0, none⟩ ds

theorem Glob.ext {E : Env} {S S' : Sig} (h : Glob E S) (hE : Ext S S') : Glob E S' := fun g t e =>
  let ⟨ds, h0, h1, h2⟩ := h g t e; ⟨ds, h0, Rf_ext hE h1, hE.old h2⟩

structure EnvOK (E : Env) : Prop where
  mixed : E.P.follows .mixedOrders = true
  zero : ∀ T z, E.zero T = some z → ∃ i v, E.P.info? T = some i ∧ i.zero = some v ∧ ∀ S, R1 S z v
  meth : ∀ t name g d, E.meth t name = some (g, d) → ∀ a w, (method (E.P.types.size + Made.depth) t (.pointer (some a)) name).run E.P w = .ok (g, .pointer (some a)) w

def CallOK (E : Env) (call : CallT) : Prop := ∀ (f : FuncId) (args : List SV) (M : Mem) (K : SV → Mem → Prop), call f args M K → okF E.P f = true →
  ∀ (S : Sig) (w : World) (vs : Array Value), Glob E S → Rep S M w → All2 (R S) args vs.toList →
    Calls E.P f vs w fun e w' => ∃ S' sv M' v, Ext S S' ∧ Rep S' M' w' ∧ K sv M' ∧ e = .returned v ∧ R S' sv v

theorem wp_val {P : Program} {o : Oper} {a : Act} {w w' : World} {next : Act → World → Prop} {Q : Exit → Act → World → Prop} {s : Sem Value} {v : Value}
    (he : execOp a.eval o = (do pure (.value (← s)))) (hr : s.run P w = .ok v w') (hn : next (a.put o.dst v) w') : o.wp P a w next Q := by
  unfold Oper.wp
  rw [he]
  simp only [Sem.run_bind, hr, Result.andThen_ok, Sem.run_pure, Oper.upon_value]
  exact hn

theorem okF_out {P : Program} {f : FuncId} (h : okF P f = true) : ∃ fn, P.funcs[f]? = some fn ∧ (fn.name == "runtime.NumGoroutine") = false ∧ fn.body.isNone = false := by
  unfold okF at h
  split at h
  · rename_i fn hf
    simp at h
    refine ⟨fn, hf, by simpa using h.1, ?_⟩
    have := h.2
    cases hb : fn.body <;> simp_all
  · simp at h

theorem run_callFunc {P : Program} {f : FuncId} (h : okF P f = true) (args : Array Value) (w : World) : (callFunc f args).run P w = .ok (.enter f args) w := by
  obtain ⟨fn, h1, h2, h3⟩ := okF_out h
  have h4 : fn.name ≠ "runtime.NumGoroutine" := by intro e; simp [e] at h2
  have h5 : fn.body ≠ none := by intro e; simp [e] at h3
  simp [callFunc, h1, h4, h5]

theorem evAll_R {S : Sig} {ev : Operand → Option SV} {a : Act} (hev : ∀ x sv, ev x = some sv → R S sv (a.eval x)) : ∀ (l : List Operand) (vs : List SV), evAll ev l = some vs → All2 (R S) vs (l.map a.eval)
  | [], vs, h => by simp [evAll] at h; subst h; exact .nil
  | o :: l, vs, h => by
    simp only [evAll] at h
    split at h
    · rename_i v vs' h1 h2
      simp at h; subst h
      exact .cons (hev _ _ h1) (evAll_R hev l vs' h2)
    · simp at h

theorem evParts_R {S : Sig} {ev : Operand → Option SV} {a : Act} (hev : ∀ x sv, ev x = some sv → R S sv (a.eval x)) : ∀ (l : List (Nat × Operand)) (ps : List (Nat × SV)), evParts ev l = some ps → PartsR S ps (l.map fun x => (x.1, a.eval x.2))
  | [], ps, h => by simp [evParts] at h; subst h; rfl
  | (i, o) :: l, ps, h => by
    simp only [evParts] at h
    split at h
    · rename_i v vs' h1 h2
      simp at h; subst h
      exact ⟨_, _, rfl, hev _ _ h1, evParts_R hev l vs' h2⟩
    · simp at h

theorem minAll_sound {S : Sig} {P : Program} {w : World} {lt : Int → Int → Bool} {f : Value → Value → Sem Value} (hf : ∀ k x y, (f (.int k x) (.int k y)).run P w = .ok (.int k (if lt y x then y else x)) w) {k : IntKind} :
    ∀ (l : List SV) (x : Int) (r : SV) (vs : List Value), minAll lt k x l = some r → All2 (R S) l vs → ∃ v, (vs.foldlM f (.int k x)).run P w = .ok v w ∧ R S r v
  | [], x, r, vs, h, hr => by
    cases hr
    simp [minAll] at h; subst h
    exact ⟨_, by simp, R_mk_i⟩
  | t :: l, x, r, vs, h, hr => by
    cases hr with
    | cons h1 h2 =>
      cases t <;> (try (simp [minAll] at h; done))
      rename_i k' y
      simp only [minAll] at h
      split at h
      · rename_i hk
        have := kindEq_eq hk; subst this
        rw [R_i h1]
        obtain ⟨v, e, hv⟩ := minAll_sound hf l _ r _ h h2
        refine ⟨v, ?_, hv⟩
        simp only [List.foldlM_cons, Sem.run_bind, hf, Result.andThen_ok]
        cases hlt : lt y x <;> simp [hlt] at e ⊢ <;> exact e
      · simp at h

theorem builtinK_sound {E : Env} {S : Sig} {M : Mem} {w : World} {b : Builtin} {at_ : Array TypeId} {ty : TypeId} {cs : Array Bool} {args : List SV} {vs : Array Value} {K : SV → Mem → Prop}
    (hk : builtinK E.P b at_ args M K) (h : Rep S M w) (hr : All2 (R S) args vs.toList) :
    ∃ sv v, K sv M ∧ (builtin b at_ ty cs vs).run E.P w = .ok (.value v) w ∧ R S sv v := by
  unfold builtinK at hk
  split at hk
  · split at hk
    · rename_i x t ht
      obtain ⟨v, hvs, hx⟩ : ∃ v, vs.toList = [v] ∧ R S x v := by
        revert hr; generalize vs.toList = l
        intro hr
        cases hr with
        | cons h1 h2 => cases h2; exact ⟨_, rfl, h1⟩
      have hv0 : vs[0]? = some v := by rw [← Array.getElem?_toList, hvs]; rfl
      split at hk
      · rename_i e hu
        split at hk
        · rename_i b' p off len cap
          have hr' : Rf S (.sl b' p off len cap) [v] := hx
          simp only [Rf] at hr'
          obtain ⟨s, o, k', m, a, z1, z2, z3, z4, z5, _⟩ := hr'
          simp at z5; subst z5
          refine ⟨_, _, hk, ?_, R_mk_i⟩
          simp [builtin, Builtin.len_, ht, hv0, run_underlying hu, goInt]
        · rename_i k' xs
          have hr' : Rf S (.roi k' xs) [v] := hx
          simp only [Rf] at hr'
          obtain ⟨a, cap, z1, z2, _⟩ := hr'
          simp at z2; subst z2
          refine ⟨_, _, hk, ?_, R_mk_i⟩
          simp [builtin, Builtin.len_, ht, hv0, run_underlying hu, goInt]
        · rename_i n g
          have hr' : Rf S (.ros n g) [v] := hx
          simp only [Rf] at hr'
          obtain ⟨a, cap, z1, z2, _⟩ := hr'
          simp at z2; subst z2
          refine ⟨_, _, hk, ?_, R_mk_i⟩
          simp [builtin, Builtin.len_, ht, hv0, run_underlying hu, goInt]
        · have hr' : Rf S .nils [v] := hx
          simp only [Rf] at hr'
          simp at hr'; subst hr'
          refine ⟨_, _, hk, ?_, R_mk_i⟩
          simp [builtin, Builtin.len_, ht, hv0, run_underlying hu, goInt]
        · exact hk.elim
      · rename_i n e hu
        refine ⟨_, _, hk, ?_, R_mk_i⟩
        simp [builtin, Builtin.len_, ht, hv0, run_underlying hu, goInt]
      · exact hk.elim
    · exact hk.elim
  · split at hk
    · rename_i k x l
      obtain ⟨vs', hvs, hx⟩ : ∃ vs', vs.toList = .int k x :: vs' ∧ All2 (R S) l vs' := by
        revert hr; generalize vs.toList = l'
        intro hr
        cases hr with
        | cons h1 h2 => rw [R_i h1]; exact ⟨_, rfl, h2⟩
      split at hk
      · rename_i r hm
        obtain ⟨v, e, hv⟩ := minAll_sound (S := S) (P := E.P) (w := w) (f := Builtin.min2) (fun k x y => by simp [Builtin.min2]) l x r vs' hm hx
        refine ⟨_, v, hk, ?_, hv⟩
        simp [builtin, Builtin.min_, hvs, e]
      · exact hk.elim
    · exact hk.elim
  · split at hk
    · rename_i k x l
      obtain ⟨vs', hvs, hx⟩ : ∃ vs', vs.toList = .int k x :: vs' ∧ All2 (R S) l vs' := by
        revert hr; generalize vs.toList = l'
        intro hr
        cases hr with
        | cons h1 h2 => rw [R_i h1]; exact ⟨_, rfl, h2⟩
      split at hk
      · rename_i r hm
        obtain ⟨v, e, hv⟩ := minAll_sound (S := S) (P := E.P) (w := w) (f := Builtin.max2) (fun k x y => by simp [Builtin.max2]) l x r vs' hm hx
        refine ⟨_, v, hk, ?_, hv⟩
        simp [builtin, Builtin.max_, hvs, e]
      · exact hk.elim
    · exact hk.elim
  · exact hk.elim

section
variable {E : Env} {S : Sig} {M : Mem} {w : World}

/-- What is shown of what stands behind an operation. -/
def Nxt (S : Sig) (o : Oper) (a : Act) (K : SV → Mem → Prop) (next : Act → World → Prop) : Prop :=
  ∀ S' sv M' v w', Ext S S' → Rep S' M' w' → K sv M' → (o.dst = none ∨ R S' sv v) → next (a.put o.dst v) w'

theorem wp_calls {P : Program} {o : Oper} {a : Act} {next : Act → World → Prop} {Q : Exit → Act → World → Prop} {f : FuncId} {vs : Array Value} {K : SV → Mem → Prop}
    (he : (execOp a.eval o).run P w = .ok (.enter f vs) w)
    (hc : Calls P f vs w fun e w' => ∃ S' sv M' v, Ext S S' ∧ Rep S' M' w' ∧ K sv M' ∧ e = .returned v ∧ R S' sv v) (hn : Nxt S o a K next) : o.wp P a w next Q := by
  unfold Oper.wp
  rw [he, Oper.upon_enter]
  refine hc.mono fun e w' ⟨S', sv, M', v, h1, h2, h3, h4, h5⟩ => ?_
  subst h4
  exact hn S' sv M' v w' h1 h2 h3 (.inr h5)

theorem callK_sound {call : CallT} (hE : EnvOK E) (hcall : CallOK E call) (hG : Glob E S) (h : Rep S M w) {o : Oper} {c : Call} {a : Act} {ev : Operand → Option SV} (hop : o.op = .call c)
    (hev : ∀ x sv, ev x = some sv → R S sv (a.eval x)) {K : SV → Mem → Prop} (hk : callK E call c ev M K) {next : Act → World → Prop} {Q : Exit → Act → World → Prop} (hn : Nxt S o a K next) : o.wp E.P a w next Q := by
  unfold callK at hk
  split at hk
  · exact hk.elim
  · rename_i args hargs
    have hA := evAll_R hev _ _ hargs
    split at hk
    · rename_i f hcal
      split at hk
      · rename_i g hf
        obtain ⟨hg, hk2⟩ := onB_out hk
        have hfv := R_fn (hev _ _ hf)
        refine wp_calls (vs := c.args.map a.eval) ?_ (hcall g args M K hk2 hg S w _ hG h (by simpa using hA)) hn
        simp [execOp, hop, resolve, hcal, hfv, Deferred.ofValue, invoke, run_callFunc hg]
      · exact hk.elim
    · rename_i r name hcal
      split at hk
      · rename_i t v hrc
        split at hk
        · rename_i g d hm
          split at hk
          · rename_i v' hp
            obtain ⟨hg, hk2⟩ := onB_out hk
            have hr' : Rf S (.ifc t v) [a.eval r] := hev _ _ hrc
            simp only [Rf] at hr'
            obtain ⟨x, x1, x2, x3⟩ := hr'
            simp at x3
            obtain ⟨⟨ad, rfl⟩, hv'⟩ := ptrsTo_sound h hp (R_of_R1 (R1_sc x1 x2))
            refine wp_calls (vs := #[.pointer (some ad)] ++ c.args.map a.eval) ?_ (hcall g (v' :: args) M K hk2 hg S w _ hG h ?_) hn
            · have h0 : (#[Value.iface t (.pointer (some ad))] ++ Array.map a.eval c.args)[0]? = some (.iface t (.pointer (some ad))) := by simp [Array.getElem?_append]
              have hx : (#[Value.iface t (.pointer (some ad))] ++ Array.map a.eval c.args).extract 1 (#[Value.iface t (.pointer (some ad))] ++ Array.map a.eval c.args).size = Array.map a.eval c.args := by
                apply Array.toList_inj.1; simp [List.extract_eq_take_drop]; exact List.take_of_length_le (by simp)
              simp only [execOp, hop, resolve, hcal, x3, Sem.run_bind, Sem.run_pure, Result.andThen_ok, invoke, h0, hx, callMethod, run_program, hE.meth _ _ _ _ hm, run_callFunc hg]
            · simpa using All2.cons hv' (by simpa using hA)
          · exact hk.elim
        · exact hk.elim
      · exact hk.elim
    · rename_i b hcal
      obtain ⟨sv, v, k1, k2, k3⟩ := builtinK_sound (ty := o.type) (cs := c.args.map fun | .const _ => true | _ => false) (vs := c.args.map a.eval) hk h (by simpa using hA)
      unfold Oper.wp
      have : (execOp a.eval o).run E.P w = .ok (.value v) w := by
        simp only [execOp, hop, resolve, hcal, Sem.run_bind, Sem.run_pure, Result.andThen_ok, invoke]
        exact k2
      rw [this, Oper.upon_value]
      exact hn S sv M v w (Ext.refl S) h k1 (.inr k3)

theorem opK_sound {call : CallT} (hE : EnvOK E) (hcall : CallOK E call) (hG : Glob E S) (h : Rep S M w) {o : Oper} {a : Act} {ev : Operand → Option SV}
    (hev : ∀ x sv, ev x = some sv → R S sv (a.eval x)) {K : SV → Mem → Prop} (hk : opK E call o ev M K) {next : Act → World → Prop} {Q : Exit → Act → World → Prop} (hn : Nxt S o a K next) : o.wp E.P a w next Q := by
  unfold opK at hk
  split at hk
  · rename_i x hop
    split at hk
    · rename_i v hx
      exact wp_val (s := pure (a.eval x)) (by simp [execOp, hop]) (by simp) (hn S v M _ w (Ext.refl S) h hk (.inr (hev _ _ hx)))
    · exact hk.elim
  · rename_i x hop
    split at hk
    · rename_i v hx
      exact wp_val (s := pure (a.eval x)) (by simp [execOp, hop]) (by simp) (hn S v M _ w (Ext.refl S) h hk (.inr (hev _ _ hx)))
    · exact hk.elim
  · rename_i T hop
    split at hk
    · rename_i z hz
      obtain ⟨i, v, h1, h2, h3⟩ := hE.zero T z hz
      obtain ⟨S', e1, e2, e3⟩ := h.push T (R1_cells (h3 S))
      refine wp_val (s := Instr.alloc T true (.tuple #[])) (by simp [execOp, hop]) ?_ (hn S' _ _ _ _ e1 e2 hk (.inr e3))
      simp [Instr.alloc, zeroValue, typeInfo, h1, h2, newVar, newRow]
    · exact hk.elim
  · rename_i T x hop
    split at hk
    · rename_i v hx
      obtain ⟨hT, hk2⟩ := onB_out hk
      simp at hT
      obtain ⟨S', e1, e2, e3⟩ := h.push T (R1_cells (R1_of_R (hev _ _ hx) hT))
      refine wp_val (s := Instr.box T (a.eval x)) (by simp [execOp, hop]) ?_ (hn S' _ _ _ _ e1 e2 hk2 (.inr e3))
      simp [Instr.box, newVar, newRow]
    · exact hk.elim
  · rename_i T parts hop
    split at hk
    · rename_i z ps hz hps
      split at hk
      · rename_i v hA hf
        simp at hA
        obtain ⟨i, v0, h1, h2, h3⟩ := hE.zero T z hz
        obtain ⟨v', r1, r2⟩ := run_build_at (w := w) h1 h2 (h3 S) hA.1 hA.2 hf (evParts_R hev _ _ hps)
        refine wp_val (s := Instr.build T (parts.map fun (i, x) => (i, a.eval x))) (by simp [execOp, hop]) ?_ (hn S v M v' w (Ext.refl S) h hk (.inr r2))
        rw [← r1]; congr 2
        apply Array.toList_inj.1; simp
      · exact hk.elim
    · exact hk.elim
  · rename_i T x hop
    split at hk
    · rename_i p hp
      obtain ⟨t, v, ad, k1, k2, k3, k4⟩ := h.loadK (hev _ _ hp) hk
      refine wp_val (s := Instr.loadAt T (a.eval x)) (by simp [execOp, hop]) ?_ (hn S t M v w (Ext.refl S) h k1 (.inr (R_of_R1 k4)))
      simp [Instr.loadAt, k2, Instr.sureAddr, k3]
    · exact hk.elim
  · rename_i T x y hop
    split at hk
    · rename_i p v hd hp hv
      obtain ⟨M', ad, w', k1, k2, k3, k4, k5⟩ := h.storeK (hev _ _ hp) (hev _ _ hv) hk
      have := hn S _ M' undef w' (Ext.refl S) k4 k1 (.inl hd)
      unfold Oper.wp
      have e : (execOp a.eval o).run E.P w = .ok .skip w' := by
        simp [execOp, hop, Instr.storeAt, k2, Instr.sureAddr, k3]
      rw [e, Oper.upon_skip]; exact this
    · exact hk.elim
  · rename_i x hop
    split at hk
    · rename_i b p hx
      obtain ⟨ad, hv⟩ := R_ptr (hev _ _ hx)
      have := hn S _ M (a.eval x) w (Ext.refl S) h hk (.inr (hev _ _ hx))
      refine wp_val (s := pure (a.eval x)) ?_ (by simp) this
      simp [execOp, hop, hv]
    · rename_i t hx
      obtain ⟨ad, _, hv, _⟩ := R_cptr (hev _ _ hx)
      have := hn S _ M (a.eval x) w (Ext.refl S) h hk (.inr (hev _ _ hx))
      refine wp_val (s := pure (a.eval x)) ?_ (by simp) this
      simp [execOp, hop, hv]
    · rename_i f hx
      have hv := R_fn (hev _ _ hx)
      have := hn S _ M (a.eval x) w (Ext.refl S) h hk (.inr (hev _ _ hx))
      refine wp_val (s := pure (a.eval x)) ?_ (by simp) this
      simp [execOp, hop, hv]
    · rename_i t v hx
      have hr' : Rf S (.ifc t v) [a.eval x] := hev _ _ hx
      simp only [Rf] at hr'
      obtain ⟨x', x1, x2, x3⟩ := hr'
      simp at x3
      have := hn S _ M (a.eval x) w (Ext.refl S) h hk (.inr (hev _ _ hx))
      refine wp_val (s := pure (a.eval x)) ?_ (by simp) this
      simp [execOp, hop, x3]
    · exact hk.elim
  · rename_i op T x y yt hop
    split at hk
    · rename_i va vb hx hy
      obtain ⟨sv, v, k1, k2, k3⟩ := binK_sound (w := w) (ox := x) (oy := y) hk (hev _ _ hx) (hev _ _ hy)
      exact wp_val (s := do eqGuard op T x y (a.eval x) (a.eval y); binOp op T (a.eval x) (a.eval y)) (by simp [execOp, hop]) k2 (hn S sv M v w (Ext.refl S) h k1 (.inr k3))
    · exact hk.elim
  · rename_i op T x hop
    split at hk
    · rename_i va hx
      obtain ⟨sv, v, k1, k2, k3⟩ := unK_sound (P := E.P) (w := w) hk (hev _ _ hx)
      exact wp_val (s := Op.unary op (a.eval x)) (by simp [execOp, hop]) k2 (hn S sv M v w (Ext.refl S) h k1 (.inr k3))
    · exact hk.elim
  · rename_i s d x hop
    split at hk
    · rename_i k n hx
      split at hk
      · rename_i k1 k' hs hd
        have hu : ∀ T k, intKindOf E.P T = some k → E.P.underlying T = some (.int k) := by
          intro T k hd
          unfold intKindOf at hd
          split at hd
          · rename_i hu; simp at hd; subst hd; exact hu
          · simp at hd
        have hv := R_i (hev _ _ hx)
        refine wp_val (s := convert s d (a.eval x)) (by simp [execOp, hop]) (v := .int k' (k'.wrap n)) (w' := w) ?_ (hn S _ M _ w (Ext.refl S) h hk (.inr R_mk_i))
        simp [convert, run_underlying (hu _ _ hs), run_underlying (hu _ _ hd), hv, Conv.intToInt]
      · exact hk.elim
    · exact hk.elim
  · rename_i T x hop
    split at hk
    · rename_i v hx
      split at hk
      · exact hk.elim
      · rename_i d hd hu
        obtain ⟨hT, hk2⟩ := onB_out hk
        simp at hT
        have hr1 := R1_sc' (R1_of_R (hev _ _ hx) hT.2) hT.1
        refine wp_val (s := Instr.makeInterface T (a.eval x)) (by simp [execOp, hop]) (v := .iface T (a.eval x)) (w' := w) ?_ (hn S _ M _ w (Ext.refl S) h hk2 (.inr ?_))
        · cases d <;> first | (simp [Instr.makeInterface, run_underlying hu]; done) | exact (hd _ rfl).elim
        · show Rf S _ _
          simp only [Rf]; exact ⟨_, hr1, hT.1, rfl⟩
      · exact hk.elim
    · exact hk.elim
  · rename_i T x f hop
    split at hk
    · rename_i p hp
      obtain ⟨sv, v, k1, k2, k3⟩ := fieldAddrK_sound h hk (hev _ _ hp)
      exact wp_val (s := Instr.fieldAt T (a.eval x) f) (by simp [execOp, hop]) k2 (hn S sv M v w (Ext.refl S) h k1 (.inr k3))
    · exact hk.elim
  · rename_i T x f hop
    split at hk
    · rename_i p hp
      obtain ⟨sv, v, k1, k2, k3⟩ := fieldV_sound (w := w) hk (hev _ _ hp)
      exact wp_val (s := Instr.field T (a.eval x) f) (by simp [execOp, hop]) k2 (hn S sv M v w (Ext.refl S) h k1 (.inr k3))
    · exact hk.elim
  · rename_i T x ix hop
    split at hk
    · rename_i p n hp hi
      obtain ⟨sv, v, k1, k2, k3⟩ := indexAddrK_sound h hk (hev _ _ hp) (hev _ _ hi)
      exact wp_val (s := Instr.indexAt T (a.eval x) (a.eval ix)) (by simp [execOp, hop]) k2 (hn S sv M v w (Ext.refl S) h k1 (.inr k3))
    · exact hk.elim
  · rename_i T x ix hop
    split at hk
    · rename_i t n hp hi
      unfold indexK at hk
      split at hk
      · rename_i k n
        obtain ⟨m, e, q, u, o', hu, i0, i1, hc, ho, hk1, hs, hz, hcl, hR⟩ := elemK_out hk
        have hat : arrT E.P T = some (m, e) := by simp [arrT, hu]
        simp only [hat] at hk1
        obtain ⟨hl, hk2⟩ := onB_out hk1
        have hiv := R_i (hev _ _ hi)
        have htA : t.isA = true := by
          cases t <;> first | rfl | (simp only [elemK, hat] at hk)
        have hr := R1_of_R (hev _ _ hp) (by cases t <;> first | rfl | (simp [SV.isA] at htA))
        unfold R1 at hr
        simp only [htA] at hr
        obtain ⟨cs, hcs, hr⟩ := hr
        have hpart := hR S _ hr
        obtain ⟨v, e1, e2⟩ := run_part_at (P := E.P) (w := w) hpart hl
        refine wp_val (s := Instr.index T (a.eval x) (a.eval ix)) (by simp [execOp, hop]) (v := v) (w' := w) ?_ (hn S u M v w (Ext.refl S) h hk2 (.inr (R_of_R1 e2)))
        rw [hcs, hiv]
        simp [Instr.index, asIntOf, run_underlying hu, i0, i1, run_sizeOf' hc, ← ho, e1]
      · exact hk.elim
    · exact hk.elim
  · rename_i x n hop
    split at hk
    · rename_i vs hx
      split at hk
      · rename_i v hg
        obtain ⟨hT, hk2⟩ := onB_out hk
        obtain ⟨l, e1, e2⟩ := hev _ _ hx
        have : ∀ (vs : SVs) (n : Nat) (l : List Value), vs.get n = some v → Rt S vs l → ∃ x, l[n]? = some x ∧ R1 S v x := by
          intro vs
          induction vs using SVs.rec (motive_1 := fun _ => True) with
          | nil => intro n l h; simp [SVs.get] at h
          | cons u r _ ih =>
            intro n l h hr
            obtain ⟨x, l', rfl, h1, h2⟩ := hr
            cases n with
            | zero => simp [SVs.get] at h; subst h; exact ⟨x, rfl, h1⟩
            | succ n => simp only [SVs.get] at h; simpa using ih n l' h h2
          | _ => trivial
        obtain ⟨x', f1, f2⟩ := this vs n l.toList hg e2
        refine wp_val (s := Instr.extract (a.eval x) n) (by simp [execOp, hop]) (v := x') (w' := w) ?_ (hn S v M x' w (Ext.refl S) h hk2 (.inr (R_of_R1 f2)))
        have : l[n]? = some x' := by rw [← Array.getElem?_toList]; exact f1
        simp [Instr.extract, e1, this]
      · exact hk.elim
    · exact hk.elim
  · rename_i c hop
    exact callK_sound hE hcall hG h hop hev hk hn
  · exact hk.elim
end

end Go.Sx
