/- Sx15: from a function that returns true, whatever memory lies there, to the walk that a row asks. -/
import Derived.Test.YtmgaphghjhbhhaaSx14
namespace Go.Sx
open Go.RowKit (Below)
set_option linter.unusedVariables false
set_option linter.unusedSimpArgs false

def S0 (W : World) : Sig := { W := W, F := W, g := none, ρ := id, sh := [] }

theorem S0_base (W : World) : Base (S0 W) := ⟨Nat.le_refl _, fun _ _ => rfl, fun b h => by simp [S0] at h⟩
theorem S0_rep (W : World) : Rep (S0 W) [] W :=
  ⟨S0_base W, rfl, Nat.le_refl _, fun _ _ _ => rfl, rfl, rfl, rfl, fun i j hi => by simp at hi, fun i hi => by simp at hi, fun i t hi => by simp at hi⟩

def isTrue : SV → Prop
  | .b x => x = true
  | _ => False

theorem law_sound {E : Env} (hE : EnvOK E) (hg : GamOK E) (hlo : LoopsOK E) (n : Nat) {f : FuncId} {fn : Func} (hfn : E.P.funcs[f]? = some fn) {args : List SV} {vs : Array Value} {W : World} (hG : Glob E (S0 W)) (hr : All2 (R (S0 W)) args vs.toList)
    (hk : bodyK E (callN E n) f fn args [] (fun r _ => isTrue r)) : Calls E.P f vs W fun e w' => e = .returned (.bool true) ∧ Below W.heap.size W w' := by
  refine (bodyK_sound hE hg hlo (callN_sound hE hg hlo n) hfn hk hG (S0_rep W) hr).mono ?_
  rintro e w' ⟨S', sv, M', v, k1, k2, k3, k4, k5⟩
  subst k4
  have hv : v = .bool true := by
    cases sv <;> simp [isTrue] at k3
    subst k3
    exact R_b k5
  subst hv
  refine ⟨rfl, ?_⟩
  have hF : S'.F = W := by rw [k1.F]; rfl
  have hgn : S'.g = none := by rw [k1.g]; rfl
  refine ⟨?_, ?_, ?_, ?_, ?_⟩
  · rw [k2.os, hF]
  · rw [k2.tape, hF]
  · rw [k2.out, hF]
  · have := k2.size; rw [hF] at this; exact this
  · intro k hk
    have := k2.kept k (by rw [hF]; exact hk) (by rw [hgn]; simp)
    rw [hF] at this; exact this

/-- Contracts one after the other. -/
theorem GamOK.none {E : Env} (h : E.gam = fun _ => Option.none) : GamOK E := by intro f c e; rw [h] at e; simp at e

theorem ConOK.env {E E' : Env} (hP : E.P = E'.P) (hg : E.glob = E'.glob) {f : FuncId} {c : Con} (h : ConOK E f c) : ConOK E' f c := by
  cases E; cases E'; subst hP; subst hg; exact h

/-! ### Tables -/
def lookN {α : Type} : List (Nat × α) → Nat → Option α
  | [], _ => none
  | (m, x) :: l, n => match Nat.beq m n with
    | true => some x
    | false => lookN l n

def allN' {α : Type} (p : Nat → α → Prop) : List (Nat × α) → Prop
  | [] => True
  | (m, x) :: l => p m x ∧ allN' p l

theorem lookN_all {α : Type} {p : Nat → α → Prop} : ∀ {l : List (Nat × α)} {n : Nat} {x : α}, allN' p l → lookN l n = some x → p n x
  | [], n, x, _, h => by simp [lookN] at h
  | (m, y) :: l, n, x, ha, h => by
    simp only [lookN] at h
    split at h
    · rename_i e
      simp at h; subst h
      have := Nat.eq_of_beq_eq_true e; subst this
      exact ha.1
    · exact lookN_all ha.2 h

/-- The one loop of a function that begins with region id. -/
def codeL (fn : Func) (id : Nat) : Code := match fn.body with
  | some c => (match (loopsOf c).filter (fun x => Nat.beq x.1 id) with
    | [x] => x.2
    | _ => .skip)
  | none => .skip
def oneL (fn : Func) (id : Nat) : Bool := match fn.body with
  | some c => (match (loopsOf c).filter (fun x => Nat.beq x.1 id) with
    | [_] => true
    | _ => false)
  | none => false

theorem codeL_spec {fn : Func} {id : Nat} {c : Code} (h : oneL fn id = true) (hb : fn.body = some c) {x : Nat × Code} (hx : x ∈ loopsOf c) (hi : x.1 = id) : x.2 = codeL fn id := by
  have hm : x ∈ (loopsOf c).filter (fun x => Nat.beq x.1 id) := by
    rw [List.mem_filter]; exact ⟨hx, by rw [hi]; exact Nat.beq_refl id⟩
  unfold oneL at h
  unfold codeL
  rw [hb] at h ⊢
  dsimp only at h ⊢
  generalize (loopsOf c).filter (fun x => Nat.beq x.1 id) = l at *
  match l, h, hm with
  | [y], _, hm =>
    simp at hm; subst hm; rfl

def lookL2 : List (Nat × Nat × LCon) → FuncId → Nat → Option LCon
  | [], _, _ => none
  | (f', i', l') :: r, f, i => match Nat.beq f' f && Nat.beq i' i with
    | true => some l'
    | false => lookL2 r f i
theorem lookL2_mem : ∀ {t : List (Nat × Nat × LCon)} {f i : Nat} {l : LCon}, lookL2 t f i = some l → (f, i, l) ∈ t
  | [], f, i, l, h => by simp [lookL2] at h
  | (f', i', l') :: r, f, i, l, h => by
    simp only [lookL2] at h
    split at h
    · rename_i e
      simp at h; subst h
      rw [Bool.and_eq_true] at e
      have e1 := Nat.eq_of_beq_eq_true e.1
      have e2 := Nat.eq_of_beq_eq_true e.2
      subst e1; subst e2; simp
    · exact List.mem_cons_of_mem _ (lookL2_mem h)

def LoopIn (E : Env) (x : Nat × Nat × LCon) : Prop := ∃ fn, E.P.funcs[x.1]? = some fn ∧ oneL fn x.2.1 = true ∧ LoopSem E fn.ntmps (codeL fn x.2.1) x.2.2
def allL (p : Nat × Nat × LCon → Prop) : List (Nat × Nat × LCon) → Prop
  | [] => True
  | x :: l => p x ∧ allL p l
theorem allL_mem {p : Nat × Nat × LCon → Prop} : ∀ {l : List (Nat × Nat × LCon)} {x}, allL p l → x ∈ l → p x
  | y :: l, x, h, hx => by
    rcases List.mem_cons.1 hx with rfl | hx
    · exact h.1
    · exact allL_mem h.2 hx

theorem loops_ok {E : Env} {t : List (Nat × Nat × LCon)} (hl : E.loop = lookL2 t) (h : allL (LoopIn E) t) : LoopsOK E := by
  intro f fn c hf hb x hx l e
  rw [hl] at e
  obtain ⟨fn', h1, h2, h3⟩ := allL_mem h (lookL2_mem e)
  rw [hf] at h1; simp at h1; subst h1
  rw [codeL_spec h2 hb hx rfl]; exact h3

mutual
def SV.flat : SV → List Value
  | .b x => [.bool x]
  | .i k n => [.int k n]
  | .nilp => [.pointer none]
  | .nili => [.nilIface]
  | .nilf => [.nilFunc]
  | .nils => [.slice none 0 0]
  | .agg fs => fs.flat
  | .arr k n xs => xs.map (.int k)
  | _ => []
def SVs.flat : SVs → List Value
  | .nil => []
  | .cons a l => a.flat ++ l.flat
end
mutual
def SV.isFlat : SV → Bool
  | .b _ => true
  | .i .. => true
  | .nilp => true
  | .nili => true
  | .nilf => true
  | .nils => true
  | .agg fs => fs.isFlat
  | .arr k n xs => Nat.beq xs.length n
  | _ => false
def SVs.isFlat : SVs → Bool
  | .nil => true
  | .cons a l => a.isFlat && l.isFlat
end
mutual
theorem Rf_flat {S : Sig} : ∀ (z : SV), z.isFlat = true → Rf S z z.flat
  | .agg fs, h => by simp only [SV.isFlat] at h; simp only [Rf, SV.flat]; exact Rfs_flat fs h
  | .arr k n xs, h => by simp only [SV.isFlat] at h; simp only [Rf, SV.flat, and_true]; exact Nat.eq_of_beq_eq_true h
  | .b _, _ | .i .., _ | .nilp, _ | .nili, _ | .nilf, _ | .nils, _ => by simp [Rf, SV.flat]
  | .ptr .., h | .cptr _, h | .fn _, h | .ifc .., h | .sl .., h | .roi .., h | .ros .., h | .tup _, h => by simp [SV.isFlat] at h
theorem Rfs_flat {S : Sig} : ∀ (z : SVs), z.isFlat = true → Rfs S z z.flat
  | .nil, _ => by simp [Rfs, SVs.flat]
  | .cons a l, h => by
    simp only [SVs.isFlat, Bool.and_eq_true] at h
    simp only [Rfs, SVs.flat]
    exact ⟨_, _, rfl, Rf_flat a h.1, Rfs_flat l h.2⟩
end

def SV.toV (z : SV) : Value := match z.isA with
  | true => .agg z.flat.toArray
  | false => z.flat.headD .nilFunc

theorem R1_flat {S : Sig} {z : SV} (h : z.isFlat = true) : R1 S z z.toV := by
  have hr := Rf_flat (S := S) z h
  unfold SV.toV
  cases hA : z.isA with
  | true => exact R1_agg hr hA
  | false =>
    obtain ⟨u, hu, _⟩ := Rf_sc hr hA
    refine R1_sc ?_ hA
    rw [hu] at hr ⊢
    exact hr

/-- A table of the zero values. -/
theorem zeros_ok {P : Program} {l : List (Nat × SV)} (h : allN' (fun T z => ((P.info? T).bind (·.zero)) = some z.toV ∧ z.isFlat = true) l) :
    ∀ T z, lookN l T = some z → ∃ i v, P.info? T = some i ∧ i.zero = some v ∧ ∀ S, R1 S z v := by
  intro T z hz
  obtain ⟨h1, h2⟩ := lookN_all h hz
  cases hi : P.info? T with
  | none => simp [hi] at h1
  | some i =>
    rw [hi] at h1
    exact ⟨i, _, rfl, h1, fun S => R1_flat h2⟩

theorem gam_ok {E : Env} {l : List (Nat × Con)} (hg : E.gam = lookN l) (h : allN' (fun f c => ConOK E f c) l) : GamOK E := by
  intro f c e
  rw [hg] at e
  exact lookN_all h e

end Go.Sx
