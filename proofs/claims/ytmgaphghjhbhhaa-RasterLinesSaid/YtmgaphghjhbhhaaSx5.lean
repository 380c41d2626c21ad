/- Sx5: parts, equality, arithmetic: what the evaluator says of them the model does. -/
import Derived.Test.YtmgaphghjhbhhaaSx4
import Derived.Laws.StructEq
namespace Go.Sx
open Go.RowKit (Below)
set_option linter.unusedVariables false
set_option linter.unusedSimpArgs false

/-- A part of a struct's or an array's cells. -/
theorem run_part_at {P : Program} {S : Sig} {w : World} {T : TypeId} {t : SV} {cs : Array Value} {o : Nat} (hr : Rf S t ((cs.toList.drop o).take t.size)) (hk : ldOK P T t = true) :
    ∃ v, (part T cs o).run P w = .ok v w ∧ R1 S t v := by
  unfold ldOK at hk
  cases hA : aggT P T with
  | none => simp [hA] at hk
  | some b =>
    cases b with
    | false =>
      simp [hA] at hk
      obtain ⟨v, e, h1, h2⟩ := Rf_sc hr hk.1
      have hv : cs[o]? = some v := by
        have h0 : ((cs.toList.drop o).take t.size)[0]? = some v := by rw [e]; rfl
        rw [List.getElem?_take] at h0
        split at h0
        · simpa using h0
        · simp at h0
      rw [e] at hr
      exact ⟨v, by simp [part, run_isAgg hA, hv], R1_sc hr hk.1⟩
    | true =>
      simp [hA] at hk
      obtain ⟨k1, k2, k3⟩ := hk
      refine ⟨.agg ((cs.toList.drop o).take t.size).toArray, ?_, R1_agg hr k1⟩
      simp only [part, Sem.run_bind, run_isAgg hA, Result.andThen_ok, if_true, run_sizeOf' (by rw [← k2]; exact nbeq0 k3 : P.cellsOf T ≠ 0), Sem.run_pure, ← k2]
      congr 2
      apply Array.toList_inj.1
      simp [List.take_drop, List.extract_eq_take_drop]

theorem eqFields_false {P : Program} {w : World} {d : Nat} {xs ys : Array Value} {f : Field} {fl : List Field} {a b : Value} (hn : f.name ≠ "_")
    (h1 : (part f.type xs f.offset).run P w = .ok a w) (h2 : (part f.type ys f.offset).run P w = .ok b w) (h3 : (Op.equalIn d f.type a b).run P w = .ok false w) :
    (Op.eqFields d xs ys (f :: fl)).run P w = .ok false w := by
  simp [Op.eqFields, hn, h1, h2, h3]
theorem eqFields_true {P : Program} {w : World} {d : Nat} {xs ys : Array Value} {f : Field} {fl : List Field} {a b : Value} (hn : f.name ≠ "_")
    (h1 : (part f.type xs f.offset).run P w = .ok a w) (h2 : (part f.type ys f.offset).run P w = .ok b w) (h3 : (Op.equalIn d f.type a b).run P w = .ok true w) :
    (Op.eqFields d xs ys (f :: fl)).run P w = (Op.eqFields d xs ys fl).run P w := by
  simp [Op.eqFields, hn, h1, h2, h3]


theorem run_part1 {P : Program} {w : World} {e : TypeId} {c : Array Value} {j : Nat} {v : Value} (hA : aggT P e = some false) (h : c[j]? = some v) : (part e c j).run P w = .ok v w := by
  simp [part, run_isAgg hA, h]

theorem run_forList {P : Program} {w : World} (p : Nat → Bool) (f : Nat → Option Bool × Unit → Sem (ForInStep (Option Bool × Unit))) : ∀ (m i : Nat),
    (∀ j, i ≤ j → j < i + m → (f j (none, ())).run P w = .ok (if p j then .yield (none, ()) else .done (some false, ())) w) →
    (forIn (List.range' i m) (none, ()) f).run P w = .ok ((if (List.range' i m).all p then none else some false), ()) w
  | 0, i, h => by simp
  | m + 1, i, h => by
    have ih := run_forList p f m (i + 1) (fun j h1 h2 => h j (by omega) (by omega))
    simp only [List.range'_succ, List.forIn_cons, Sem.run_bind, h i (Nat.le_refl _) (by omega), Result.andThen_ok, List.all_cons]
    cases p i
    · simp
    · simp only [if_true, ih, Bool.true_and]

theorem run_forRange {P : Program} {w : World} (p : Nat → Bool) (f : Nat → Option Bool × Unit → Sem (ForInStep (Option Bool × Unit))) (n : Nat)
    (h : ∀ j, j < n → (f j (none, ())).run P w = .ok (if p j then .yield (none, ()) else .done (some false, ())) w) :
    (forIn [:n] (none, ()) f).run P w = .ok ((if (List.range' 0 n).all p then none else some false), ()) w := by
  have : (forIn [:n] (none, ()) f) = forIn (List.range' 0 n) (none, ()) f := by
    rw [Std.Legacy.Range.forIn_eq_forIn_range']
    simp [Std.Legacy.Range.size]
  rw [this]
  exact run_forList p f n 0 (fun j _ h2 => h j (by omega))

theorem all_eq {n : Nat} {xs ys : List Int} (hx : xs.length = n) (hy : ys.length = n) : ((List.range' 0 n).all fun j => decide (xs.getD j 0 = ys.getD j 0)) = decide (xs = ys) := by
  rw [Bool.eq_iff_iff]
  simp only [List.all_eq_true, decide_eq_true_eq, List.mem_range'_1]
  constructor
  · intro h
    apply List.ext_getElem (by omega)
    intro j h1 h2
    have := h j ⟨by omega, by omega⟩
    simpa [List.getD_eq_getElem?_getD, List.getElem?_eq_getElem h1, List.getElem?_eq_getElem h2] using this
  · rintro rfl j _; rfl

theorem run_equalIn_arr {P : Program} {w : World} {d : Nat} {T e : TypeId} {n : Nat} (hT : P.underlying T = some (.array n e)) (hc : P.cellsOf e = 1) (cx cy : Array Value) (p : Nat → Bool)
    (h : ∀ j, j < n → ∃ a b, (part e cx j).run P w = .ok a w ∧ (part e cy j).run P w = .ok b w ∧ (Op.equalIn d e a b).run P w = .ok (p j) w) :
    (Op.equalIn (d + 1) T (.agg cx) (.agg cy)).run P w = .ok ((List.range' 0 n).all p) w := by
  rw [Op.equalIn]
  simp only [Sem.run_bind, run_underlying hT, Result.andThen_ok, run_sizeOf' (by omega : P.cellsOf e ≠ 0), hc]
  rw [run_forRange p _ n]
  · cases (List.range' 0 n).all p <;> simp
  · intro j hj
    obtain ⟨a, b, h1, h2, h3⟩ := h j hj
    simp only [Nat.mul_one, Sem.run_bind, h1, h2, h3, Result.andThen_ok]
    cases p j <;> simp

theorem run_equalIn_row {P : Program} {w : World} {d : Nat} {T e : TypeId} {n : Nat} {ke k : IntKind} (hT : P.underlying T = some (.array n e)) (he : P.underlying e = some (.int ke)) (hc : P.cellsOf e = 1)
    (xs ys : List Int) (hx : xs.length = n) (hy : ys.length = n) (cx cy : Array Value) (h1 : cx.toList = xs.map (Value.int k)) (h2 : cy.toList = ys.map (Value.int k)) :
    (Op.equalIn (d + 2) T (.agg cx) (.agg cy)).run P w = .ok (decide (xs = ys)) w := by
  have hA : aggT P e = some false := by simp [aggT, he]
  rw [← all_eq hx hy]
  refine run_equalIn_arr hT hc cx cy _ fun j hj => ?_
  have e1 : cx[j]? = some (.int k (xs.getD j 0)) := by
    rw [← Array.getElem?_toList, h1]; simp [List.getD_eq_getElem?_getD, List.getElem?_eq_getElem (by omega : j < xs.length)]
  have e2 : cy[j]? = some (.int k (ys.getD j 0)) := by
    rw [← Array.getElem?_toList, h2]; simp [List.getD_eq_getElem?_getD, List.getElem?_eq_getElem (by omega : j < ys.length)]
  refine ⟨_, _, run_part1 hA e1, run_part1 hA e2, ?_⟩
  rw [run_equalIn_int w d e k ke _ _ he]
  congr 1

theorem eqF_sound {P : Program} {S : Sig} {w : World} {eq : TypeId → SV → SV → Option Bool} {D : Nat} (heq : ∀ (T : TypeId) (x y : SV) (r : Bool) (vx vy : Value), eq T x y = some r → R1 S x vx → R1 S y vy → (Op.equalIn D T vx vy).run P w = .ok r w) : ∀ (fl : List Field) (o : Nat) (xs ys : SVs) (r : Bool) (cx cy : Array Value), eqF P eq fl o xs ys = some r →
    Rfs S xs (cx.toList.drop o) → Rfs S ys (cy.toList.drop o) → (Op.eqFields D cx cy fl).run P w = .ok r w
  | [], o, xs, ys, r, cx, cy, h, hx, hy => by
    cases xs <;> cases ys <;> simp [eqF] at h
    subst h; simp [Op.eqFields]
  | f :: fl, o, .nil, ys, r, cx, cy, h, hx, hy => by cases ys <;> simp [eqF] at h
  | f :: fl, o, .cons x xs, .nil, r, cx, cy, h, hx, hy => by simp [eqF] at h
  | f :: fl, o, .cons x xs, .cons y ys, r, cx, cy, h, hx, hy => by
    simp only [eqF] at h
    split at h
    · rename_i hq hn
      simp at hq hn
      obtain ⟨q1, q2, q3, q4, q5⟩ := hq
      split at h
      · rename_i p q hp hq'
        simp at h
        simp only [Rfs] at hx hy
        obtain ⟨x1, x2, ex, hx1, hx2⟩ := hx
        obtain ⟨y1, y2, ey, hy1, hy2⟩ := hy
        have lx := Rf_len x x1 hx1
        have ly := Rf_len y y1 hy1
        have tx : (cx.toList.drop o).take x.size = x1 := by rw [ex, ← lx]; simp
        have ty : (cy.toList.drop o).take y.size = y1 := by rw [ey, ← ly]; simp
        have dx : cx.toList.drop (o + x.size) = x2 := by rw [← List.drop_drop, ex, ← lx]; simp
        have dy : cy.toList.drop (o + x.size) = y2 := by rw [q3, ← List.drop_drop, ey, ← ly]; simp
        obtain ⟨a, ha, ra⟩ := run_part_at (P := P) (w := w) (T := f.type) (cs := cx) (o := o) (by rw [tx]; exact hx1) q4
        obtain ⟨b, hb, rb⟩ := run_part_at (P := P) (w := w) (T := f.type) (cs := cy) (o := o) (by rw [ty]; exact hy1) q5
        have he := heq f.type x y p a b hp ra rb
        rw [← q1] at ha hb
        cases p with
        | false =>
          rw [eqFields_false hn ha hb he]
          simp at h; rw [h]
        | true =>
          rw [eqFields_true hn ha hb he]
          simp at h; rw [← h]
          exact eqF_sound heq fl (o + x.size) xs ys q cx cy hq' (by rw [dx]; exact hx2) (by rw [dy]; exact hy2)
      · simp at h
    · simp at h
theorem eqT_sound {P : Program} {S : Sig} {w : World} : ∀ (d D : Nat) (T : TypeId) (x y : SV) (r : Bool) (vx vy : Value), d + 1 ≤ D → eqT P d T x y = some r → R1 S x vx → R1 S y vy →
    (Op.equalIn D T vx vy).run P w = .ok r w
  | 0, D, T, x, y, r, vx, vy, hD, h, hx, hy => by simp [eqT] at h
  | d + 1, D, T, x, y, r, vx, vy, hD, h, hx, hy => by
    obtain ⟨D, rfl⟩ : ∃ m, D = m + 2 := ⟨D - 2, by omega⟩
    simp only [eqT] at h
    cases hu : P.underlying T with
    | none => simp [hu] at h
    | some u =>
      cases u with
      | bool =>
        simp only [hu] at h
        cases x <;> cases y <;> simp at h
        subst h
        simp [R1, SV.isA, Rf] at hx hy
        subst hx hy
        simp [Op.equalIn, run_underlying hu]
      | int k =>
        simp only [hu] at h
        cases x <;> cases y <;> (try (simp at h; done))
        dsimp only at h
        split at h
        · rename_i h1
          simp at h
          have := kindEq_eq h1
          subst this h
          simp [R1, SV.isA, Rf] at hx hy
          subst hx hy
          simp [Op.equalIn, run_underlying hu]
        · simp at h
      | struct fs =>
        simp only [hu] at h
        cases hp : P.stoodInHeld T with
        | true => simp [hp] at h
        | false =>
          simp only [hp] at h
          cases x <;> cases y <;> simp at h
          rename_i xs ys
          obtain ⟨cx, rfl, hx⟩ := hx
          obtain ⟨cy, rfl, hy⟩ := hy
          have hf : P.fieldsOf T = fs := by simp [Program.fieldsOf, hu]
          rw [run_equalIn_struct w (D + 1) T cx cy (by rw [hf]; exact hu) hp, hf]
          simp only [Rf] at hx hy
          exact eqF_sound (fun T x y r vx vy => eqT_sound d (D + 1) T x y r vx vy (by omega)) fs.toList 0 xs ys r cx cy h (by simpa using hx) (by simpa using hy)
      | array n e =>
        simp only [hu] at h
        cases x <;> cases y <;> simp at h
        rename_i k m xs k' m' ys
        split at h
        · rename_i hq he
          simp at h
          rename_i ke _
          simp at hq
          obtain ⟨q1, q2, q3, q4⟩ := hq
          have := kindEq_eq q1; subst this
          obtain ⟨cx, rfl, hx⟩ := hx
          obtain ⟨cy, rfl, hy⟩ := hy
          simp only [Rf] at hx hy
          rw [← h]
          exact run_equalIn_row hu he q4 xs ys (by omega) (by omega) cx cy hx.2 hy.2
        · simp at h
      | _ => simp [hu] at h
end Go.Sx
