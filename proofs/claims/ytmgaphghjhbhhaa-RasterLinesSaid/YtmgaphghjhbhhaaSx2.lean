/- Sx2: what a symbolic value says of the model's values, and how that is carried along. -/
import Derived.Test.YtmgaphghjhbhhaaSx1
import Derived.Laws.Tables
import Derived.Laws.Cells
namespace Go.Sx
open Go.RowKit (Below)
set_option linter.unusedVariables false
set_option linter.unusedSimpArgs false

theorem kindEq_eq {a b : IntKind} (h : kindEq a b = true) : a = b := by
  cases a <;> cases b <;> first | rfl | (simp [kindEq] at h)

/-! ### Shapes -/
mutual
inductive Shp : Type where
  | sc
  | nd (l : Shps)
  | ar (k : IntKind) (n : Nat)
inductive Shps : Type where
  | nil
  | cons (a : Shp) (l : Shps)
end
mutual
def Shp.size : Shp → Nat
  | .nd l => l.size
  | .ar _ n => n
  | .sc => 1
def Shps.size : Shps → Nat
  | .nil => 0
  | .cons a l => a.size + l.size
end
mutual
def SV.shp : SV → Shp
  | .agg fs => .nd fs.shp
  | .arr k n _ => .ar k n
  | _ => .sc
def SVs.shp : SVs → Shps
  | .nil => .nil
  | .cons a l => .cons a.shp l.shp
end
def Shps.off : Shps → Nat → Option (Nat × Shp)
  | .nil, _ => none
  | .cons a _, 0 => some (0, a)
  | .cons a l, k + 1 => match l.off k with
    | some (o, t) => some (a.size + o, t)
    | none => none
def Shp.at : Shp → List PStep → Option (Nat × Shp)
  | s, [] => some (0, s)
  | .nd l, .f k :: p => match l.off k with
    | some (o, s) => match Shp.at s p with
      | some (o', s') => some (o + o', s')
      | none => none
    | none => none
  | .ar _ n, [.x ix] => if 0 ≤ ix ∧ ix < n then some (ix.toNat, .sc) else none
  | _, _ => none

mutual
theorem size_shp : ∀ t : SV, t.shp.size = t.size
  | .agg fs => by simp only [SV.shp, Shp.size, SV.size]; exact sizes_shp fs
  | .arr .. => rfl
  | .b _ | .i .. | .ptr .. | .cptr _ | .nilp | .fn _ | .ifc .. | .nili | .nilf | .sl .. | .roi .. | .ros .. | .nils | .tup _ => rfl
theorem sizes_shp : ∀ l : SVs, l.shp.size = l.size
  | .nil => rfl
  | .cons a l => by simp only [SVs.shp, Shps.size, SVs.size]; rw [size_shp a, sizes_shp l]
end

mutual
theorem same_shp : ∀ a b : SV, a.same b = true → a.shp = b.shp
  | .agg u, b, h => by
    cases b <;> simp [SV.same] at h
    simp only [SV.shp]; rw [sames_shp _ _ h]
  | .arr k n _, b, h => by
    cases b <;> simp [SV.same] at h
    obtain ⟨h1, h2⟩ := h
    simp only [SV.shp]; rw [kindEq_eq h1, h2]
  | .b _, b, h | .i .., b, h | .ptr .., b, h | .cptr _, b, h | .nilp, b, h | .fn _, b, h | .ifc .., b, h | .nili, b, h | .nilf, b, h | .sl .., b, h | .roi .., b, h | .ros .., b, h | .nils, b, h => by
    cases b <;> first | rfl | (simp [SV.same] at h)
  | .tup _, b, h => by simp [SV.same] at h
theorem sames_shp : ∀ a b : SVs, a.same b = true → a.shp = b.shp
  | .nil, .nil, _ => rfl
  | .nil, .cons .., h => by simp [SVs.same] at h
  | .cons .., .nil, h => by simp [SVs.same] at h
  | .cons u l, .cons v m, h => by
    simp [SVs.same] at h
    simp only [SVs.shp]; rw [same_shp u v h.1, sames_shp l m h.2]
end

/-! ### What a value says -/
structure Sig where
  W : World
  F : World
  g : Option Nat
  ρ : Nat → Nat
  sh : List Shp

def Old (S : Sig) (a : Addr) (ds : List Value) : Prop :=
  a.block < S.W.heap.size ∧ ∀ (j : Nat) v, ds[j]? = some v → S.W.cell? (a.add j) = some v

mutual
def Rf (S : Sig) : SV → List Value → Prop
  | .b x, cs => cs = [.bool x]
  | .i k n, cs => cs = [.int k n]
  | .ptr blk p, cs => ∃ s o s', S.sh[blk]? = some s ∧ s.at p = some (o, s') ∧ cs = [.pointer (some ⟨S.ρ blk, o, none⟩)]
  | .cptr t, cs => ∃ a ds, t.cl 0 = true ∧ Rf S t ds ∧ Old S a ds ∧ cs = [.pointer (some a)]
  | .nilp, cs => cs = [.pointer none]
  | .fn f, cs => cs = [.func (.func f) #[] #[]]
  | .ifc t v, cs => ∃ x, Rf S v [x] ∧ v.isA = false ∧ cs = [.iface t x]
  | .nili, cs => cs = [.nilIface]
  | .nilf, cs => cs = [.nilFunc]
  | .agg fs, cs => Rfs S fs cs
  | .arr k n xs, cs => xs.length = n ∧ cs = xs.map (.int k)
  | .sl blk p off len cap, cs => ∃ s o k n a, S.sh[blk]? = some s ∧ s.at p = some (o, .ar k n) ∧ off + cap ≤ n ∧ len ≤ cap ∧
      cs = [.slice (some a) len cap] ∧ a.block = S.ρ blk ∧ a.spot = none ∧ (0 < cap → a.off = o + off)
  | .roi k xs, cs => ∃ a cap, xs.length ≤ cap ∧ cs = [.slice a xs.length cap] ∧ (a = none → xs = []) ∧ ∀ a', a = some a' → xs = [] ∨ Old S a' (xs.map (.int k))
  | .ros n g, cs => ∃ a cap, n ≤ cap ∧ cs = [.slice a n cap] ∧ (a = none → n = 0) ∧
      ∀ j, j < n → (g j).cl 0 = true ∧ ∃ ds, Rf S (g j) ds ∧ ∀ a', a = some a' → Old S (a'.add (j * (g j).size)) ds
  | .nils, cs => cs = [.slice none 0 0]
  | .tup _, _ => False
def Rfs (S : Sig) : SVs → List Value → Prop
  | .nil, cs => cs = []
  | .cons a l, cs => ∃ c1 c2, cs = c1 ++ c2 ∧ Rf S a c1 ∧ Rfs S l c2
end

mutual
theorem Rf_len {S : Sig} : ∀ (t : SV) (cs : List Value), Rf S t cs → cs.length = t.size
  | .agg fs, cs, h => by simp only [Rf] at h; simp only [SV.size]; exact Rfs_len fs cs h
  | .arr k n xs, cs, h => by simp only [Rf] at h; obtain ⟨h1, rfl⟩ := h; simp [SV.size, h1]
  | .b _, cs, h | .i .., cs, h | .nilp, cs, h | .fn _, cs, h | .nili, cs, h | .nilf, cs, h | .nils, cs, h => by
    simp only [Rf] at h; subst h; rfl
  | .ptr .., cs, h => by simp only [Rf] at h; obtain ⟨_, _, _, _, _, rfl⟩ := h; rfl
  | .cptr _, cs, h => by simp only [Rf] at h; obtain ⟨_, _, _, _, _, rfl⟩ := h; rfl
  | .ifc .., cs, h => by simp only [Rf] at h; obtain ⟨_, _, _, rfl⟩ := h; rfl
  | .sl .., cs, h => by simp only [Rf] at h; obtain ⟨_, _, _, _, _, _, _, _, _, rfl, _⟩ := h; rfl
  | .roi .., cs, h => by simp only [Rf] at h; obtain ⟨_, _, _, rfl, _⟩ := h; rfl
  | .ros .., cs, h => by simp only [Rf] at h; obtain ⟨_, _, _, rfl, _⟩ := h; rfl
  | .tup _, cs, h => by simp only [Rf] at h
theorem Rfs_len {S : Sig} : ∀ (t : SVs) (cs : List Value), Rfs S t cs → cs.length = t.size
  | .nil, cs, h => by simp only [Rfs] at h; subst h; rfl
  | .cons a l, cs, h => by
    simp only [Rfs] at h
    obtain ⟨c1, c2, rfl, h1, h2⟩ := h
    simp [SVs.size, Rf_len a c1 h1, Rfs_len l c2 h2]
end

/-- A value that is no struct and no array is one cell that no struct's value is. -/
theorem Rf_sc {S : Sig} {t : SV} {cs : List Value} (h : Rf S t cs) (hA : t.isA = false) : ∃ v, cs = [v] ∧ v.oneCell' = true ∧ v.cells = #[v] := by
  cases t <;> simp only [Rf] at h <;> simp [SV.isA] at hA
  all_goals first
    | exact h.elim
    | (subst h; exact ⟨_, rfl, rfl, rfl⟩)
    | (obtain ⟨_, _, _, _, _, rfl⟩ := h; exact ⟨_, rfl, rfl, rfl⟩)
    | (obtain ⟨_, _, _, _, rfl⟩ := h; exact ⟨_, rfl, rfl, rfl⟩)
    | (obtain ⟨_, _, _, rfl⟩ := h; exact ⟨_, rfl, rfl, rfl⟩)
    | (obtain ⟨_, _, _, _, _, _, _, _, _, rfl, _⟩ := h; exact ⟨_, rfl, rfl, rfl⟩)
    | (obtain ⟨_, _, _, rfl, _⟩ := h; exact ⟨_, rfl, rfl, rfl⟩)

mutual
theorem Rf_one {S : Sig} : ∀ (t : SV) (cs : List Value), Rf S t cs → ∀ v ∈ cs, v.oneCell' = true
  | .agg fs, cs, h => by simp only [Rf] at h; exact Rfs_one fs cs h
  | .arr k n xs, cs, h => by
    simp only [Rf] at h; obtain ⟨_, rfl⟩ := h
    intro v hv; obtain ⟨x, _, rfl⟩ := List.mem_map.1 hv; rfl
  | .b x, cs, h => one_sc h rfl
  | .i .., cs, h => one_sc h rfl
  | .nilp, cs, h => one_sc h rfl
  | .fn _, cs, h => one_sc h rfl
  | .nili, cs, h => one_sc h rfl
  | .nilf, cs, h => one_sc h rfl
  | .nils, cs, h => one_sc h rfl
  | .ptr .., cs, h => one_sc h rfl
  | .cptr _, cs, h => one_sc h rfl
  | .ifc .., cs, h => one_sc h rfl
  | .sl .., cs, h => one_sc h rfl
  | .roi .., cs, h => one_sc h rfl
  | .ros .., cs, h => one_sc h rfl
  | .tup _, cs, h => by simp only [Rf] at h
theorem Rfs_one {S : Sig} : ∀ (t : SVs) (cs : List Value), Rfs S t cs → ∀ v ∈ cs, v.oneCell' = true
  | .nil, cs, h => by simp only [Rfs] at h; subst h; simp
  | .cons a l, cs, h => by
    simp only [Rfs] at h
    obtain ⟨c1, c2, rfl, h1, h2⟩ := h
    intro v hv
    rcases List.mem_append.1 hv with hv | hv
    · exact Rf_one a c1 h1 v hv
    · exact Rfs_one l c2 h2 v hv
theorem one_sc {S : Sig} {t : SV} {cs : List Value} (h : Rf S t cs) (hA : t.isA = false) : ∀ v ∈ cs, v.oneCell' = true := by
  obtain ⟨v, rfl, h1, _⟩ := Rf_sc h hA
  intro u hu; simp at hu; subst hu; exact h1
end

end Go.Sx
