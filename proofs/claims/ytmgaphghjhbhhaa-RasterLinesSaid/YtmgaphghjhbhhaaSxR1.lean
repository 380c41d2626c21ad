/- SxR1: one dot of a raster, one cycle: what the code does and what the document's code does is one and the same function. -/
import Derived.Test.YtmgaphghjhbhhaaSxR0
namespace Go.Sx
open Go.Proofs
set_option linter.unusedVariables false
set_option linter.unusedSimpArgs false

def Ras.pl (r : Ras) : Int := r.line * 341 + r.dot

def Ras.valid (r : Ras) : Bool :=
  decide (0 ≤ r.line) && decide (r.line < 262) && decide (0 ≤ r.dot) && decide (r.dot < 341) && (!r.vbl || (decide (82182 ≤ r.pl) && decide (r.pl ≤ 89001))) && (!r.hold || decide (r.pl = 82181))

/-- The place behind a place. -/
def nextP (r : Ras) : Int := if r.pl = 89341 ∨ (r.pl = 89340 ∧ r.odd = true ∧ r.draw = true) then 0 else r.pl + 1

def clk (p : Int) : Bool := decide (p % 341 = 260) && (decide (p < 81840) || decide (89001 ≤ p))

def Ras.goOn (r : Ras) (p : Int) : Ras :=
  { line := p / 341, dot := p % 341
    odd := if p = 0 then !r.odd else r.odd
    vbl := if p = 82182 then r.vbl || !r.hold else if p = 89002 then false else r.vbl
    nmi := r.nmi, draw := r.draw
    hold := if p = 82182 then false else r.hold }

def Ras.step (r : Ras) : Ras := r.goOn (nextP r)
def Ras.clock (r : Ras) : Bool := r.draw && clk (nextP r)

def rasOf : SV → Option Ras
  | .agg (.cons (.i .i64 l) (.cons (.i .i64 d) (.cons (.b o) (.cons (.b v) (.cons (.b n) (.cons (.b w) (.cons (.b h) .nil))))))) => some ⟨l, d, o, v, n, w, h⟩
  | _ => none

theorem rasOf_some {x : SV} {r : Ras} (h : rasOf x = some r) : x = r.sv := by
  unfold rasOf at h
  split at h
  · simp at h; subst h; rfl
  · simp at h

/-- A function of a raster alone. -/
def onR (F : Ras → SV) (l : List SV) : Option SV := match l with
  | [x] => match rasOf x with
    | some r => some (F r)
    | none => none
  | _ => none
theorem onR_some {F : Ras → SV} {l : List SV} {v : SV} (h : onR F l = some v) : ∃ r, l = [r.sv] ∧ v = F r := by
  unfold onR at h
  split at h
  · split at h
    · rename_i r hr
      simp at h; subst h
      exact ⟨r, by rw [rasOf_some hr], rfl⟩
    · simp at h
  · simp at h

def two (a b : SV) : SV := .tup (.cons a (.cons b .nil))
def nat01 (b : Bool) : Int := if b = true then 1 else 0

def gV : List (Nat × Con) := []
def noLoop : List (Nat × Nat × LCon) := []
theorem noLoops (gam : List (Nat × Con)) : LoopsOK (E0 gam noLoop) := loops_ok rfl trivial

theorem br_in {c : Bool} {a b : Prop} (h1 : c = true → a) (h2 : c = false → b) : br c a b := by
  cases c
  · exact h2 rfl
  · exact h1 rfl

theorem t27 (r : Ras) : bodyK (E0 gV noLoop) (callN (E0 gV noLoop) 5) 27 Try.f27 [r.sv] [] (fun x _ => onB (x.cl 0) (x = .b r.valid)) = (
  br (decide (r.line < 0) || decide (262 ≤ r.line) || decide (r.dot < 0) || decide (341 ≤ r.dot)) (SV.b false = SV.b r.valid)
  (br (r.vbl && (decide (IntKind.i64.wrap (IntKind.i64.wrap (r.line * 341) + r.dot) < 82182) || decide (89001 < IntKind.i64.wrap (IntKind.i64.wrap (r.line * 341) + r.dot)))) (SV.b false = SV.b r.valid) (SV.b (!r.hold || IntKind.i64.wrap (IntKind.i64.wrap (r.line * 341) + r.dot) == 82181) = SV.b r.valid))) := by kernel_rfl
theorem t28 (r : Ras) : bodyK (E0 gV noLoop) (callN (E0 gV noLoop) 5) 28 Try.f28 [r.sv] [] (fun x _ => onB (x.cl 0) (x = .b r.valid)) = (
  br (decide (r.line < 0) || decide (261 < r.line) || decide (r.dot < 0) || decide (340 < r.dot)) (SV.b false = SV.b r.valid)
  (br r.vbl (br (decide (r.line < 241) || r.line == 241 && decide (r.dot < 1)) (SV.b false = SV.b r.valid) (br (decide (261 < r.line) || 261 == r.line && decide (0 < r.dot)) (SV.b false = SV.b r.valid) (SV.b (!r.hold || r.line == 241 && r.dot == 0) = SV.b r.valid))) (SV.b (!r.hold || r.line == 241 && r.dot == 0) = SV.b r.valid))) := by kernel_rfl
theorem t43 (r : Ras) : bodyK (E0 gV noLoop) (callN (E0 gV noLoop) 5) 43 Try.f43 [r.sv] [] (fun x _ => onB (x.cl 0) (x = two r.step.sv (.i .i64 (nat01 r.clock)))) = (
  br (r.line == 261 && r.dot == 339 && r.odd && r.draw) (two (rsv 0 0 (!r.odd) r.vbl r.nmi r.draw r.hold) (SV.i IntKind.i64 0) = two r.step.sv (SV.i IntKind.i64 (nat01 r.clock)))
  (br (decide (r.dot < 340))
    (br (decide (1 < IntKind.i64.wrap (r.dot + 1)))
      (br (IntKind.i64.wrap (r.dot + 1) == 260 && r.draw && (decide (r.line < 240) || r.line == 261)) (two (rsv r.line (IntKind.i64.wrap (r.dot + 1)) r.odd r.vbl r.nmi r.draw r.hold) (SV.i IntKind.i64 1) = two r.step.sv (SV.i IntKind.i64 (nat01 r.clock)))
        (two (rsv r.line (IntKind.i64.wrap (r.dot + 1)) r.odd r.vbl r.nmi r.draw r.hold) (SV.i IntKind.i64 0) = two r.step.sv (SV.i IntKind.i64 (nat01 r.clock))))
      (br (IntKind.i64.wrap (r.dot + 1) == 0 && r.line == 0)
        (br (IntKind.i64.wrap (r.dot + 1) == 1 && r.line == 241)
          (br (IntKind.i64.wrap (r.dot + 1) == 1 && r.line == 261) (two (rsv r.line (IntKind.i64.wrap (r.dot + 1)) (!r.odd) false r.nmi r.draw false) (SV.i IntKind.i64 0) = two r.step.sv (SV.i IntKind.i64 (nat01 r.clock))) (two (rsv r.line (IntKind.i64.wrap (r.dot + 1)) (!r.odd) (r.vbl || !r.hold) r.nmi r.draw false) (SV.i IntKind.i64 0) = two r.step.sv (SV.i IntKind.i64 (nat01 r.clock))))
          (br (IntKind.i64.wrap (r.dot + 1) == 1 && r.line == 261) (two (rsv r.line (IntKind.i64.wrap (r.dot + 1)) (!r.odd) false r.nmi r.draw r.hold) (SV.i IntKind.i64 0) = two r.step.sv (SV.i IntKind.i64 (nat01 r.clock))) (two (rsv r.line (IntKind.i64.wrap (r.dot + 1)) (!r.odd) r.vbl r.nmi r.draw r.hold) (SV.i IntKind.i64 0) = two r.step.sv (SV.i IntKind.i64 (nat01 r.clock)))))
        (br (IntKind.i64.wrap (r.dot + 1) == 1 && r.line == 241)
          (br (IntKind.i64.wrap (r.dot + 1) == 1 && r.line == 261) (two (rsv r.line (IntKind.i64.wrap (r.dot + 1)) r.odd false r.nmi r.draw false) (SV.i IntKind.i64 0) = two r.step.sv (SV.i IntKind.i64 (nat01 r.clock))) (two (rsv r.line (IntKind.i64.wrap (r.dot + 1)) r.odd (r.vbl || !r.hold) r.nmi r.draw false) (SV.i IntKind.i64 0) = two r.step.sv (SV.i IntKind.i64 (nat01 r.clock))))
          (br (IntKind.i64.wrap (r.dot + 1) == 1 && r.line == 261) (two (rsv r.line (IntKind.i64.wrap (r.dot + 1)) r.odd false r.nmi r.draw r.hold) (SV.i IntKind.i64 0) = two r.step.sv (SV.i IntKind.i64 (nat01 r.clock))) (two (rsv r.line (IntKind.i64.wrap (r.dot + 1)) r.odd r.vbl r.nmi r.draw r.hold) (SV.i IntKind.i64 0) = two r.step.sv (SV.i IntKind.i64 (nat01 r.clock)))))))
    (br (decide (261 < IntKind.i64.wrap (r.line + 1))) (two (rsv 0 0 (!r.odd) r.vbl r.nmi r.draw r.hold) (SV.i IntKind.i64 0) = two r.step.sv (SV.i IntKind.i64 (nat01 r.clock)))
      (br (0 == 0 && IntKind.i64.wrap (r.line + 1) == 0) (two (rsv (IntKind.i64.wrap (r.line + 1)) 0 (!r.odd) r.vbl r.nmi r.draw r.hold) (SV.i IntKind.i64 0) = two r.step.sv (SV.i IntKind.i64 (nat01 r.clock))) (two (rsv (IntKind.i64.wrap (r.line + 1)) 0 r.odd r.vbl r.nmi r.draw r.hold) (SV.i IntKind.i64 0) = two r.step.sv (SV.i IntKind.i64 (nat01 r.clock))))))) := by kernel_rfl

end Go.Sx
