/- Sx16: all of a row's arguments at once: opened ahead of the call, shut behind it. -/
import Derived.Test.YtmgaphghjhbhhaaSx15
import Derived.ChangeShapes
namespace Go.Sx
open Go.RowKit (Below)
set_option linter.unusedVariables false
set_option linter.unusedSimpArgs false

def IsL (P : Program) (d : Nat) : List TypeId → List SV → Prop
  | [], l => l = []
  | t :: ts, l => ∃ s r, l = s :: r ∧ Is P d t s ∧ IsL P d ts r

theorem open_args {H : Type} {enc : TypeId × Value → H} {P : Program} {w : World} {spare : Nat → Bool} {held : Bool} {S : Sig} {base : Nat} (hW : S.W = w) (d : Nat) :
    ∀ (ts : List TypeId) (vs : List Value) (ds : List (DataW H)) (ps : List MemPlace), ts.all (okT P d) = true → (∀ (j : Nat) t v, ts[j]? = some t → vs[j]? = some v → Value.okWide P w .any base t v) →
      DataW.TrodAll enc P w 0 spare held ts vs ds ps → ∃ svs, IsL P d ts svs ∧ All2 (R S) svs vs ∧ clAll 0 svs = true
  | [], vs, ds, ps, ht, hv, h => by
    obtain ⟨rfl, rfl, rfl⟩ := ChangeShapes.trodAll_nil h
    exact ⟨[], rfl, .nil, rfl⟩
  | t :: ts, vs, ds, ps, ht, hv, h => by
    obtain ⟨v, vs', dd, ds', p, q, rfl, rfl, rfl, h1, h2⟩ := ChangeShapes.trodAll_cons h
    simp only [List.all_cons, Bool.and_eq_true] at ht
    obtain ⟨sv, a1, a2, a3⟩ := open_arg (S := S) hW d ht.1 (hv 0 t v rfl rfl) h1
    obtain ⟨svs, b1, b2, b3⟩ := open_args hW d ts vs' ds' q ht.2 (fun j t' v' e1 e2 => hv (j + 1) t' v' e1 e2) h2
    exact ⟨sv :: svs, ⟨sv, svs, rfl, a1, b1⟩, .cons a2 b2, by simp [clAll, a3, b3]⟩

theorem trodAll_len {H : Type} {enc : TypeId × Value → H} {P : Program} {w : World} {b : Nat} {spare : Nat → Bool} {held : Bool} : ∀ {ts : List TypeId} {vs : List Value} {ds : List (DataW H)} {ps : List MemPlace},
    DataW.TrodAll enc P w b spare held ts vs ds ps → ds.length = ts.length
  | [], vs, ds, ps, h => by
    obtain ⟨rfl, rfl, rfl⟩ := ChangeShapes.trodAll_nil h
    rfl
  | t :: ts, vs, ds, ps, h => by
    obtain ⟨v, vs', dd, ds', p, q, rfl, rfl, rfl, h1, h2⟩ := ChangeShapes.trodAll_cons h
    simp [trodAll_len h2]

theorem shut_args {H : Type} {enc : TypeId × Value → H} {P : Program} (hl : laidOutB P = true) {W W' : World} (hb : Below W.heap.size W W') :
    ∀ (ts : List TypeId) (vs : List Value) (ds : List (DataW H)) (ps : List MemPlace), ts.all (fun t => P.readableRec t && decide (t < P.types.size)) = true →
      (∀ x ∈ ps, x.block < W.heap.size) → DataW.TrodAll enc P W 0 (fun _ => true) true ts vs ds ps → DataW.TrodAll enc P W' 0 (fun b => decide (b < W.heap.size)) true ts vs ds ps
  | [], vs, ds, ps, ht, hlt, h => by
    obtain ⟨rfl, rfl, rfl⟩ := ChangeShapes.trodAll_nil h
    exact ChangeShapes.trodAll_mk0
  | t :: ts, vs, ds, ps, ht, hlt, h => by
    obtain ⟨v, vs', dd, ds', p, q, rfl, rfl, rfl, h1, h2⟩ := ChangeShapes.trodAll_cons h
    simp only [List.all_cons, Bool.and_eq_true, decide_eq_true_eq] at ht
    exact trodAll_cons_mk (Below.trod hl ht.1.1 ht.1.2 h1 hb fun x hx => hlt x (by simp [hx]))
      (shut_args hl hb ts vs' ds' q (by simpa using ht.2) (fun x hx => hlt x (by simp [hx])) h2)

end Go.Sx
