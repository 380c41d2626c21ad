/- Sx6: each operation of the evaluator, held against the model. -/
import Derived.Test.YtmgaphghjhbhhaaSx5
namespace Go.Sx
open Go.RowKit (Below)
set_option linter.unusedVariables false
set_option linter.unusedSimpArgs false

theorem onB_out {x : Bool} {K : Prop} (h : onB x K) : x = true ∧ K := by
  cases x
  · exact h.elim
  · exact ⟨rfl, h⟩

theorem R_i {S : Sig} {k : IntKind} {n : Int} {v : Value} (h : R S (.i k n) v) : v = .int k n := by
  have h' : Rf S (.i k n) [v] := h
  simp only [Rf] at h'; simpa using h'
theorem R_b {S : Sig} {x : Bool} {v : Value} (h : R S (.b x) v) : v = .bool x := by
  have h' : Rf S (.b x) [v] := h
  simp only [Rf] at h'; simpa using h'
theorem R_nilp {S : Sig} {v : Value} (h : R S .nilp v) : v = .pointer none := by
  have h' : Rf S .nilp [v] := h
  simp only [Rf] at h'; simpa using h'
theorem R_ptr {S : Sig} {b : Nat} {p : List PStep} {v : Value} (h : R S (.ptr b p) v) : ∃ a, v = .pointer (some a) := by
  have h' : Rf S (.ptr b p) [v] := h
  simp only [Rf] at h'; obtain ⟨_, _, _, _, _, e⟩ := h'; simp at e; exact ⟨_, e⟩
theorem R_cptr {S : Sig} {t : SV} {v : Value} (h : R S (.cptr t) v) : ∃ a ds, v = .pointer (some a) ∧ t.cl 0 = true ∧ Rf S t ds ∧ Old S a ds := by
  have h' : Rf S (.cptr t) [v] := h
  simp only [Rf] at h'; obtain ⟨a, ds, h0, h1, h2, e⟩ := h'; simp at e; exact ⟨a, ds, e, h0, h1, h2⟩
theorem R_fn {S : Sig} {f : FuncId} {v : Value} (h : R S (.fn f) v) : v = .func (.func f) #[] #[] := by
  have h' : Rf S (.fn f) [v] := h
  simp only [Rf] at h'; simpa using h'
theorem R_mk_i {S : Sig} {k : IntKind} {n : Int} : R S (.i k n) (.int k n) := by show Rf S _ _; simp [Rf]
theorem R_mk_b {S : Sig} {x : Bool} : R S (.b x) (.bool x) := by show Rf S _ _; simp [Rf]
theorem R_agg {S : Sig} {fs : SVs} {v : Value} (h : R S (.agg fs) v) : ∃ cs : Array Value, v = .agg cs ∧ Rfs S fs cs.toList := by
  obtain ⟨cs, e, h⟩ := h; exact ⟨cs, e, by simpa only [Rf] using h⟩
theorem R_arr {S : Sig} {k : IntKind} {n : Nat} {xs : List Int} {v : Value} (h : R S (.arr k n xs) v) : ∃ cs : Array Value, v = .agg cs ∧ xs.length = n ∧ cs.toList = xs.map (.int k) := by
  obtain ⟨cs, e, h⟩ := h; exact ⟨cs, e, by simpa only [Rf] using h⟩

/-! ### Arithmetic -/
theorem ptr_ne {P : Program} {T : TypeId} (h : ptrT P T = true) : ∃ e, P.underlying T = some (.pointer e) := by
  unfold ptrT at h
  cases hu : P.underlying T with
  | none => simp [hu] at h
  | some d => cases d <;> simp [hu] at h; exact ⟨_, rfl⟩

theorem eq_pp {P : Program} {w : World} {T : TypeId} (h : ptrT P T = true) : (Op.equal T (.pointer none) (.pointer none)).run P w = .ok true w := by
  obtain ⟨e, hu⟩ := ptr_ne h
  rw [Op.equal, show Op.maxDepth = 9999 + 1 from rfl, Op.equalIn]
  simp [run_underlying hu]
theorem eq_pn {P : Program} {w : World} {T : TypeId} {a : Addr} (h : ptrT P T = true) : (Op.equal T (.pointer (some a)) (.pointer none)).run P w = .ok false w := by
  obtain ⟨e, hu⟩ := ptr_ne h
  rw [Op.equal, show Op.maxDepth = 9999 + 1 from rfl, Op.equalIn]
  simp [run_underlying hu]

theorem eqA {P : Program} {S : Sig} {w : World} {T : TypeId} {x y : SV} {r : Bool} {vx vy : Value} (h : eqT P 30 T x y = some r) (hx : R1 S x vx) (hy : R1 S y vy) :
    (Op.equal T vx vy).run P w = .ok r w := eqT_sound 30 Op.maxDepth T x y r vx vy (by decide) h hx hy

theorem binK_sound {P : Program} {S : Sig} {w : World} {op : BinOp} {T : TypeId} {a b : SV} {x y : Value} {ox oy : Operand} {K : SV → Prop} (hk : binK P op T a b K) (hx : R S a x) (hy : R S b y) :
    ∃ sv v, K sv ∧ (do eqGuard op T ox oy x y; binOp op T x y : Sem Value).run P w = .ok v w ∧ R S sv v := by
  cases op
  case eql =>
    simp only [binK] at hk
    split at hk
    · obtain ⟨h1, hk2⟩ := onB_out hk
      have := kindEq_eq h1
      rw [R_i hx, R_i hy, this]
      refine ⟨_, _, hk2, ?_, R_mk_b⟩
      simp [eqGuard, binOp, Op.intCmp]
    · split at hk
      · rename_i r hg he
        have hE := eqA (w := w) he hx hy
        obtain ⟨cx, e1, _⟩ := R_agg hx
        obtain ⟨cy, e2, _⟩ := R_agg hy
        subst e1 e2
        refine ⟨_, _, hk, ?_, R_mk_b⟩
        simp [run_eqGuard_agg _ _ _ _ _ _ _ hg, binOp, hE]
      · exact hk.elim
    · split at hk
      · rename_i r hg he
        have hE := eqA (w := w) he hx hy
        obtain ⟨cx, e1, _⟩ := R_arr hx
        obtain ⟨cy, e2, _⟩ := R_arr hy
        subst e1 e2
        refine ⟨_, _, hk, ?_, R_mk_b⟩
        simp [run_eqGuard_agg _ _ _ _ _ _ _ hg, binOp, hE]
      · exact hk.elim
    · split at hk
      · rename_i r he
        have hE := eqA (S := S) (w := w) he hx hy
        rw [R_b hx, R_b hy] at hE ⊢
        refine ⟨_, _, hk, ?_, R_mk_b⟩
        simp [eqGuard, binOp, hE]
      · exact hk.elim
    · obtain ⟨h1, hk2⟩ := onB_out hk
      rw [R_nilp hx, R_nilp hy]
      refine ⟨_, _, hk2, ?_, R_mk_b⟩
      simp [eqGuard, binOp, eq_pp h1]
    · obtain ⟨h1, hk2⟩ := onB_out hk
      obtain ⟨a, e1⟩ := R_ptr hx
      rw [e1, R_nilp hy]
      refine ⟨_, _, hk2, ?_, R_mk_b⟩
      simp [eqGuard, binOp, eq_pn h1]
    · obtain ⟨h1, hk2⟩ := onB_out hk
      obtain ⟨a, _, e1, _⟩ := R_cptr hx
      rw [e1, R_nilp hy]
      refine ⟨_, _, hk2, ?_, R_mk_b⟩
      simp [eqGuard, binOp, eq_pn h1]
    · exact hk.elim
  case neq =>
    simp only [binK] at hk
    split at hk
    · obtain ⟨h1, hk2⟩ := onB_out hk
      have := kindEq_eq h1
      rw [R_i hx, R_i hy, this]
      refine ⟨_, _, hk2, ?_, R_mk_b⟩
      simp [eqGuard, binOp, Op.intCmp]
    · split at hk
      · rename_i r hg he
        have hE := eqA (w := w) he hx hy
        obtain ⟨cx, e1, _⟩ := R_agg hx
        obtain ⟨cy, e2, _⟩ := R_agg hy
        subst e1 e2
        refine ⟨_, _, hk, ?_, R_mk_b⟩
        simp [run_eqGuard_agg _ _ _ _ _ _ _ hg, binOp, hE]
      · exact hk.elim
    · split at hk
      · rename_i r hg he
        have hE := eqA (w := w) he hx hy
        obtain ⟨cx, e1, _⟩ := R_arr hx
        obtain ⟨cy, e2, _⟩ := R_arr hy
        subst e1 e2
        refine ⟨_, _, hk, ?_, R_mk_b⟩
        simp [run_eqGuard_agg _ _ _ _ _ _ _ hg, binOp, hE]
      · exact hk.elim
    · split at hk
      · rename_i r he
        have hE := eqA (S := S) (w := w) he hx hy
        rw [R_b hx, R_b hy] at hE ⊢
        refine ⟨_, _, hk, ?_, R_mk_b⟩
        simp [eqGuard, binOp, hE]
      · exact hk.elim
    · obtain ⟨h1, hk2⟩ := onB_out hk
      rw [R_nilp hx, R_nilp hy]
      refine ⟨_, _, hk2, ?_, R_mk_b⟩
      simp [eqGuard, binOp, eq_pp h1]
    · obtain ⟨h1, hk2⟩ := onB_out hk
      obtain ⟨a, e1⟩ := R_ptr hx
      rw [e1, R_nilp hy]
      refine ⟨_, _, hk2, ?_, R_mk_b⟩
      simp [eqGuard, binOp, eq_pn h1]
    · obtain ⟨h1, hk2⟩ := onB_out hk
      obtain ⟨a, _, e1, _⟩ := R_cptr hx
      rw [e1, R_nilp hy]
      refine ⟨_, _, hk2, ?_, R_mk_b⟩
      simp [eqGuard, binOp, eq_pn h1]
    · exact hk.elim
  case quo =>
    simp only [binK] at hk
    split at hk
    · obtain ⟨h1, hk2⟩ := onB_out hk
      obtain ⟨h2, hk3⟩ := onB_out hk2
      have := kindEq_eq h1
      rw [R_i hx, R_i hy, this]
      rw [this] at hk3
      simp at h2
      refine ⟨_, _, hk3, ?_, R_mk_i⟩
      simp [eqGuard, binOp, Op.intDiv, h2]
    · exact hk.elim
  case rem =>
    simp only [binK] at hk
    split at hk
    · obtain ⟨h1, hk2⟩ := onB_out hk
      obtain ⟨h2, hk3⟩ := onB_out hk2
      have := kindEq_eq h1
      rw [R_i hx, R_i hy, this]
      rw [this] at hk3
      simp at h2
      refine ⟨_, _, hk3, ?_, R_mk_i⟩
      simp [eqGuard, binOp, Op.intDiv, h2]
    · exact hk.elim
  case shl =>
    simp only [binK] at hk
    split at hk
    · obtain ⟨h2, hk2⟩ := onB_out hk
      rw [R_i hx, R_i hy]
      refine ⟨_, _, hk2, ?_, R_mk_i⟩
      simp at h2
      simp [eqGuard, binOp, Op.shift, Int.not_lt.2 h2, ishl]
    · exact hk.elim
  case shr =>
    simp only [binK] at hk
    split at hk
    · obtain ⟨h2, hk2⟩ := onB_out hk
      rw [R_i hx, R_i hy]
      refine ⟨_, _, hk2, ?_, R_mk_i⟩
      simp at h2
      simp [eqGuard, binOp, Op.shift, Int.not_lt.2 h2, ishr]
    · exact hk.elim
  case add =>
    simp only [binK] at hk
    split at hk
    · obtain ⟨h1, hk2⟩ := onB_out hk
      have := kindEq_eq h1
      rw [R_i hx, R_i hy, this]
      rw [this] at hk2
      refine ⟨_, _, hk2, ?_, R_mk_i⟩
      simp [eqGuard, binOp, Op.intArith]
    · exact hk.elim
  case sub =>
    simp only [binK] at hk
    split at hk
    · obtain ⟨h1, hk2⟩ := onB_out hk
      have := kindEq_eq h1
      rw [R_i hx, R_i hy, this]
      rw [this] at hk2
      refine ⟨_, _, hk2, ?_, R_mk_i⟩
      simp [eqGuard, binOp, Op.intArith]
    · exact hk.elim
  case mul =>
    simp only [binK] at hk
    split at hk
    · obtain ⟨h1, hk2⟩ := onB_out hk
      have := kindEq_eq h1
      rw [R_i hx, R_i hy, this]
      rw [this] at hk2
      refine ⟨_, _, hk2, ?_, R_mk_i⟩
      simp [eqGuard, binOp, Op.intArith]
    · exact hk.elim
  case and =>
    simp only [binK] at hk
    split at hk
    · obtain ⟨h1, hk2⟩ := onB_out hk
      have := kindEq_eq h1
      rw [R_i hx, R_i hy, this]
      rw [this] at hk2
      refine ⟨_, _, hk2, ?_, R_mk_i⟩
      simp [eqGuard, binOp, Op.intBits, iand, ior, ixor, iandn]
    · exact hk.elim
  case or =>
    simp only [binK] at hk
    split at hk
    · obtain ⟨h1, hk2⟩ := onB_out hk
      have := kindEq_eq h1
      rw [R_i hx, R_i hy, this]
      rw [this] at hk2
      refine ⟨_, _, hk2, ?_, R_mk_i⟩
      simp [eqGuard, binOp, Op.intBits, iand, ior, ixor, iandn]
    · exact hk.elim
  case xor =>
    simp only [binK] at hk
    split at hk
    · obtain ⟨h1, hk2⟩ := onB_out hk
      have := kindEq_eq h1
      rw [R_i hx, R_i hy, this]
      rw [this] at hk2
      refine ⟨_, _, hk2, ?_, R_mk_i⟩
      simp [eqGuard, binOp, Op.intBits, iand, ior, ixor, iandn]
    · exact hk.elim
  case andNot =>
    simp only [binK] at hk
    split at hk
    · obtain ⟨h1, hk2⟩ := onB_out hk
      have := kindEq_eq h1
      rw [R_i hx, R_i hy, this]
      rw [this] at hk2
      refine ⟨_, _, hk2, ?_, R_mk_i⟩
      simp [eqGuard, binOp, Op.intBits, iand, ior, ixor, iandn]
    · exact hk.elim
  case lss =>
    simp only [binK] at hk
    split at hk
    · obtain ⟨h1, hk2⟩ := onB_out hk
      have := kindEq_eq h1
      rw [R_i hx, R_i hy, this]
      skip
      refine ⟨_, _, hk2, ?_, R_mk_b⟩
      simp [eqGuard, binOp, Op.intCmp]
    · exact hk.elim
  case leq =>
    simp only [binK] at hk
    split at hk
    · obtain ⟨h1, hk2⟩ := onB_out hk
      have := kindEq_eq h1
      rw [R_i hx, R_i hy, this]
      skip
      refine ⟨_, _, hk2, ?_, R_mk_b⟩
      simp [eqGuard, binOp, Op.intCmp]
    · exact hk.elim
  case gtr =>
    simp only [binK] at hk
    split at hk
    · obtain ⟨h1, hk2⟩ := onB_out hk
      have := kindEq_eq h1
      rw [R_i hx, R_i hy, this]
      skip
      refine ⟨_, _, hk2, ?_, R_mk_b⟩
      simp [eqGuard, binOp, Op.intCmp]
    · exact hk.elim
  case geq =>
    simp only [binK] at hk
    split at hk
    · obtain ⟨h1, hk2⟩ := onB_out hk
      have := kindEq_eq h1
      rw [R_i hx, R_i hy, this]
      skip
      refine ⟨_, _, hk2, ?_, R_mk_b⟩
      simp [eqGuard, binOp, Op.intCmp]
    · exact hk.elim

theorem unK_sound {P : Program} {S : Sig} {w : World} {op : UnOp} {a : SV} {x : Value} {K : SV → Prop} (hk : unK op a K) (hx : R S a x) :
    ∃ sv v, K sv ∧ (Op.unary op x).run P w = .ok v w ∧ R S sv v := by
  cases op <;> simp only [unK] at hk
  · split at hk
    · rw [R_i hx]; refine ⟨_, _, hk, ?_, R_mk_i⟩; simp [Op.unary, Op.intArith]
    · exact hk.elim
  · split at hk
    · rw [R_i hx]
      refine ⟨_, _, hk, ?_, R_mk_i⟩
      rename_i k n
      cases k <;> rfl
    · exact hk.elim
  · split at hk
    · rw [R_b hx]; refine ⟨_, _, hk, ?_, R_mk_b⟩; simp [Op.unary]
    · exact hk.elim

end Go.Sx
