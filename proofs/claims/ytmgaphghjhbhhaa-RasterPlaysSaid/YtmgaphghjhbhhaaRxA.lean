/-
  SxR0: the raster's seat: its tables.
  SxR1: one dot of a raster, one cycle: what the code does and what the document's code does is one and the same function.
  SxR2: a dot of a raster: what the code shows is the function.
  SxR3: Valid, Dot, Tick: contracts.
  SxR4: Valid, Dot, Tick: contracts.
  SxR5: the line, the reads, the writes, near: their trees.
  SxR6: the line, the reads, the writes, near: contracts.
  SxR7: two laws of the raster: Toggled, Touched; and Dots.
  SxR8: Toggled, Touched, Dots return true.
  SxR9: Toggled returns true.
  SxM1: many dots at once: plain laws of the raster, no program in sight.
  SxM2: a frame's end, whole frames: plain laws of the raster.
  SxR10: place, length, struck, skip: trees.
  SxR11: place, length, struck, skip: contracts.
  SxR12: runs: one round of its loop, what is ahead and behind.
  SxR13: runs: its loop's contract.
  SxR14: runs, Advance: trees.
  SxR15: runs, raster.Advance: contracts; the loop of the document's Advance.
  SxR16: the document's Advance: tree.
  SxR17: the document's Advance: contract.
-/
import Derived.Test.YtmgaphghjhbhhaaChecked
import Derived.Test.YtmgaphghjhbhhaaSxB
import Derived.KernelRfl
import Derived.IntWalk
namespace Go.Sx
open Go.Proofs
set_option linter.unusedVariables false
set_option linter.unusedSimpArgs false

/-- A fork of a walk. -/
def br (c : Bool) (a b : Prop) : Prop := match c with
  | true => a
  | false => b

def svs (l : List SV) : SVs := SVs.ofList l
def zInt : SV := .i .i64 0
def zU8 : SV := .i .u8 0
def zRas : SV := .agg (.cons zInt (.cons zInt (.cons (.b false) (.cons (.b false) (.cons (.b false) (.cons (.b false) (.cons (.b false) .nil)))))))
def zBeam : SV := .agg (.cons zRas (.cons (.b false) .nil))
def zFns : SV := .agg (.cons .nilf (.cons .nilf (.cons .nilf (.cons .nilf (.cons .nilf .nil)))))
def zOp : SV := .agg (.cons zInt (.cons zInt (.cons zU8 .nil)))
def zTab : List (Nat × SV) := [(3, zInt), (4, .b false), (5, zU8), (23, zRas), (47, zBeam), (49, zFns), (43, zOp)]

noncomputable def E0 (gam : List (Nat × Con)) (loop : List (Nat × Nat × LCon)) : Env :=
  { P := Try.prog, zero := lookN zTab, glob := fun _ => none, meth := fun _ _ => none, gam := lookN gam, loop := lookL2 loop }

theorem zTab_ok : allN' (fun T z => ((Try.prog.info? T).bind (·.zero)) = some z.toV ∧ z.isFlat = true) zTab :=
  ⟨⟨by kernel_rfl, by kernel_rfl⟩, ⟨by kernel_rfl, by kernel_rfl⟩, ⟨by kernel_rfl, by kernel_rfl⟩, ⟨by kernel_rfl, by kernel_rfl⟩, ⟨by kernel_rfl, by kernel_rfl⟩, ⟨by kernel_rfl, by kernel_rfl⟩, ⟨by kernel_rfl, by kernel_rfl⟩, trivial⟩

theorem E0_ok (gam : List (Nat × Con)) (loop : List (Nat × Nat × LCon)) : EnvOK (E0 gam loop) :=
  { mixed := by kernel_rfl
    zero := zeros_ok zTab_ok
    meth := fun t name g d h => by simp [E0] at h }

theorem E0_glob (gam : List (Nat × Con)) (loop : List (Nat × Nat × LCon)) (S : Sig) : Glob (E0 gam loop) S := fun g t h => by simp [E0] at h

/-- A raster. -/
structure Ras where
  line : Int
  dot : Int
  odd : Bool
  vbl : Bool
  nmi : Bool
  draw : Bool
  hold : Bool

def Ras.sv (r : Ras) : SV := .agg (.cons (.i .i64 r.line) (.cons (.i .i64 r.dot) (.cons (.b r.odd) (.cons (.b r.vbl) (.cons (.b r.nmi) (.cons (.b r.draw) (.cons (.b r.hold) .nil)))))))

/-- What is asked of a call. -/
structure Chk (p : Prop) : Prop where
  ok : p

def rsv (l d : Int) (o v n w h : Bool) : SV := .agg (.cons (.i .i64 l) (.cons (.i .i64 d) (.cons (.b o) (.cons (.b v) (.cons (.b n) (.cons (.b w) (.cons (.b h) .nil)))))))

end Go.Sx

namespace Go.Sx
open Go.Proofs
set_option linter.unusedVariables false
set_option linter.unusedSimpArgs false

def Ras.pl (r : Ras) : Int := r.line * 341 + r.dot

def Ras.valid (r : Ras) : Bool :=
  decide (0 ≤ r.line) && decide (r.line < 262) && decide (0 ≤ r.dot) && decide (r.dot < 341) && (!r.vbl || (decide (82182 ≤ r.pl) && decide (r.pl ≤ 89001))) && (!r.hold || decide (r.pl = 82181))

/-- The place behind a place. -/
def nextP (r : Ras) : Int := if r.pl = 89341 ∨ (r.pl = 89340 ∧ r.odd = true ∧ r.draw = true) then 0 else r.pl + 1

def clk (p : Int) : Bool := decide (p % 341 = 260) && (decide (p < 81840) || decide (89001 ≤ p))

def Ras.goOn (r : Ras) (p : Int) : Ras :=
  { line := p / 341, dot := p % 341
    odd := if p = 0 then !r.odd else r.odd
    vbl := if p = 82182 then r.vbl || !r.hold else if p = 89002 then false else r.vbl
    nmi := r.nmi, draw := r.draw
    hold := if p = 82182 then false else r.hold }

def Ras.step (r : Ras) : Ras := r.goOn (nextP r)
def Ras.clock (r : Ras) : Bool := r.draw && clk (nextP r)

def rasOf : SV → Option Ras
  | .agg (.cons (.i .i64 l) (.cons (.i .i64 d) (.cons (.b o) (.cons (.b v) (.cons (.b n) (.cons (.b w) (.cons (.b h) .nil))))))) => some ⟨l, d, o, v, n, w, h⟩
  | _ => none

theorem rasOf_some {x : SV} {r : Ras} (h : rasOf x = some r) : x = r.sv := by
  unfold rasOf at h
  split at h
  · simp at h; subst h; rfl
  · simp at h

/-- A function of a raster alone. -/
def onR (F : Ras → SV) (l : List SV) : Option SV := match l with
  | [x] => match rasOf x with
    | some r => some (F r)
    | none => none
  | _ => none
theorem onR_some {F : Ras → SV} {l : List SV} {v : SV} (h : onR F l = some v) : ∃ r, l = [r.sv] ∧ v = F r := by
  unfold onR at h
  split at h
  · split at h
    · rename_i r hr
      simp at h; subst h
      exact ⟨r, by rw [rasOf_some hr], rfl⟩
    · simp at h
  · simp at h

def two (a b : SV) : SV := .tup (.cons a (.cons b .nil))
def nat01 (b : Bool) : Int := if b = true then 1 else 0

def gV : List (Nat × Con) := []
def noLoop : List (Nat × Nat × LCon) := []
theorem noLoops (gam : List (Nat × Con)) : LoopsOK (E0 gam noLoop) := loops_ok rfl trivial

theorem br_in {c : Bool} {a b : Prop} (h1 : c = true → a) (h2 : c = false → b) : br c a b := by
  cases c
  · exact h2 rfl
  · exact h1 rfl

theorem t27 (r : Ras) : bodyK (E0 gV noLoop) (callN (E0 gV noLoop) 5) 27 Try.f27 [r.sv] [] (fun x _ => onB (x.cl 0) (x = .b r.valid)) = (
  br (decide (r.line < 0) || decide (262 ≤ r.line) || decide (r.dot < 0) || decide (341 ≤ r.dot)) (SV.b false = SV.b r.valid)
  (br (r.vbl && (decide (IntKind.i64.wrap (IntKind.i64.wrap (r.line * 341) + r.dot) < 82182) || decide (89001 < IntKind.i64.wrap (IntKind.i64.wrap (r.line * 341) + r.dot)))) (SV.b false = SV.b r.valid) (SV.b (!r.hold || IntKind.i64.wrap (IntKind.i64.wrap (r.line * 341) + r.dot) == 82181) = SV.b r.valid))) := by kernel_rfl
theorem t28 (r : Ras) : bodyK (E0 gV noLoop) (callN (E0 gV noLoop) 5) 28 Try.f28 [r.sv] [] (fun x _ => onB (x.cl 0) (x = .b r.valid)) = (
  br (decide (r.line < 0) || decide (261 < r.line) || decide (r.dot < 0) || decide (340 < r.dot)) (SV.b false = SV.b r.valid)
  (br r.vbl (br (decide (r.line < 241) || r.line == 241 && decide (r.dot < 1)) (SV.b false = SV.b r.valid) (br (decide (261 < r.line) || 261 == r.line && decide (0 < r.dot)) (SV.b false = SV.b r.valid) (SV.b (!r.hold || r.line == 241 && r.dot == 0) = SV.b r.valid))) (SV.b (!r.hold || r.line == 241 && r.dot == 0) = SV.b r.valid))) := by kernel_rfl
theorem t43 (r : Ras) : bodyK (E0 gV noLoop) (callN (E0 gV noLoop) 5) 43 Try.f43 [r.sv] [] (fun x _ => onB (x.cl 0) (x = two r.step.sv (.i .i64 (nat01 r.clock)))) = (
  br (r.line == 261 && r.dot == 339 && r.odd && r.draw) (two (rsv 0 0 (!r.odd) r.vbl r.nmi r.draw r.hold) (SV.i IntKind.i64 0) = two r.step.sv (SV.i IntKind.i64 (nat01 r.clock)))
  (br (decide (r.dot < 340))
    (br (decide (1 < IntKind.i64.wrap (r.dot + 1)))
      (br (IntKind.i64.wrap (r.dot + 1) == 260 && r.draw && (decide (r.line < 240) || r.line == 261)) (two (rsv r.line (IntKind.i64.wrap (r.dot + 1)) r.odd r.vbl r.nmi r.draw r.hold) (SV.i IntKind.i64 1) = two r.step.sv (SV.i IntKind.i64 (nat01 r.clock)))
        (two (rsv r.line (IntKind.i64.wrap (r.dot + 1)) r.odd r.vbl r.nmi r.draw r.hold) (SV.i IntKind.i64 0) = two r.step.sv (SV.i IntKind.i64 (nat01 r.clock))))
      (br (IntKind.i64.wrap (r.dot + 1) == 0 && r.line == 0)
        (br (IntKind.i64.wrap (r.dot + 1) == 1 && r.line == 241)
          (br (IntKind.i64.wrap (r.dot + 1) == 1 && r.line == 261) (two (rsv r.line (IntKind.i64.wrap (r.dot + 1)) (!r.odd) false r.nmi r.draw false) (SV.i IntKind.i64 0) = two r.step.sv (SV.i IntKind.i64 (nat01 r.clock))) (two (rsv r.line (IntKind.i64.wrap (r.dot + 1)) (!r.odd) (r.vbl || !r.hold) r.nmi r.draw false) (SV.i IntKind.i64 0) = two r.step.sv (SV.i IntKind.i64 (nat01 r.clock))))
          (br (IntKind.i64.wrap (r.dot + 1) == 1 && r.line == 261) (two (rsv r.line (IntKind.i64.wrap (r.dot + 1)) (!r.odd) false r.nmi r.draw r.hold) (SV.i IntKind.i64 0) = two r.step.sv (SV.i IntKind.i64 (nat01 r.clock))) (two (rsv r.line (IntKind.i64.wrap (r.dot + 1)) (!r.odd) r.vbl r.nmi r.draw r.hold) (SV.i IntKind.i64 0) = two r.step.sv (SV.i IntKind.i64 (nat01 r.clock)))))
        (br (IntKind.i64.wrap (r.dot + 1) == 1 && r.line == 241)
          (br (IntKind.i64.wrap (r.dot + 1) == 1 && r.line == 261) (two (rsv r.line (IntKind.i64.wrap (r.dot + 1)) r.odd false r.nmi r.draw false) (SV.i IntKind.i64 0) = two r.step.sv (SV.i IntKind.i64 (nat01 r.clock))) (two (rsv r.line (IntKind.i64.wrap (r.dot + 1)) r.odd (r.vbl || !r.hold) r.nmi r.draw false) (SV.i IntKind.i64 0) = two r.step.sv (SV.i IntKind.i64 (nat01 r.clock))))
          (br (IntKind.i64.wrap (r.dot + 1) == 1 && r.line == 261) (two (rsv r.line (IntKind.i64.wrap (r.dot + 1)) r.odd false r.nmi r.draw r.hold) (SV.i IntKind.i64 0) = two r.step.sv (SV.i IntKind.i64 (nat01 r.clock))) (two (rsv r.line (IntKind.i64.wrap (r.dot + 1)) r.odd r.vbl r.nmi r.draw r.hold) (SV.i IntKind.i64 0) = two r.step.sv (SV.i IntKind.i64 (nat01 r.clock)))))))
    (br (decide (261 < IntKind.i64.wrap (r.line + 1))) (two (rsv 0 0 (!r.odd) r.vbl r.nmi r.draw r.hold) (SV.i IntKind.i64 0) = two r.step.sv (SV.i IntKind.i64 (nat01 r.clock)))
      (br (0 == 0 && IntKind.i64.wrap (r.line + 1) == 0) (two (rsv (IntKind.i64.wrap (r.line + 1)) 0 (!r.odd) r.vbl r.nmi r.draw r.hold) (SV.i IntKind.i64 0) = two r.step.sv (SV.i IntKind.i64 (nat01 r.clock))) (two (rsv (IntKind.i64.wrap (r.line + 1)) 0 r.odd r.vbl r.nmi r.draw r.hold) (SV.i IntKind.i64 0) = two r.step.sv (SV.i IntKind.i64 (nat01 r.clock))))))) := by kernel_rfl

end Go.Sx

namespace Go.Sx
open Go.Proofs
set_option linter.unusedVariables false
set_option linter.unusedSimpArgs false

theorem valid_iff (r : Ras) : r.valid = true ↔ 0 ≤ r.line ∧ r.line < 262 ∧ 0 ≤ r.dot ∧ r.dot < 341 ∧ (r.vbl = true → 82182 ≤ r.pl ∧ r.pl ≤ 89001) ∧ (r.hold = true → r.pl = 82181) := by
  unfold Ras.valid
  cases r.vbl <;> cases r.hold <;> simp [and_assoc]

theorem bool_eq_iff {a b : Bool} (h : a = true ↔ b = true) : a = b := by cases a <;> cases b <;> simp_all

theorem p27 (r : Ras) : bodyK (E0 gV noLoop) (callN (E0 gV noLoop) 5) 27 Try.f27 [r.sv] [] (fun x _ => onB (x.cl 0) (x = .b r.valid)) := by
  rw [t27]
  refine br_in (fun h1 => ?_) (fun h1 => br_in (fun h2 => ?_) (fun h2 => ?_)) <;> congr 1 <;> apply bool_eq_iff <;> rw [valid_iff] <;> simp only [Ras.pl] at * <;> simp at h1
  · simp; omega
  all_goals (rw [IntWalk.i64_in (r.line * 341) (by omega), IntWalk.i64_in _ (by omega)] at h2)
  · grind
  · rw [IntWalk.i64_in (r.line * 341) (by omega), IntWalk.i64_in _ (by omega)]
    cases hv : r.vbl <;> cases hh : r.hold <;> simp [hv, hh] at h2 ⊢ <;> omega

theorem p28 (r : Ras) : bodyK (E0 gV noLoop) (callN (E0 gV noLoop) 5) 28 Try.f28 [r.sv] [] (fun x _ => onB (x.cl 0) (x = .b r.valid)) := by
  rw [t28]
  refine br_in (fun h1 => ?_) (fun h1 => br_in (fun h2 => br_in (fun h3 => ?_) (fun h3 => br_in (fun h4 => ?_) (fun h4 => ?_))) (fun h2 => ?_)) <;> congr 1 <;> apply bool_eq_iff <;> rw [valid_iff] <;> simp only [Ras.pl] at * <;> simp at h1
  · simp; omega
  · simp at h3; simp [h2]; omega
  · simp at h4; simp [h2]; omega
  · simp at h3 h4
    cases hh : r.hold <;> simp [h2, hh] <;> omega
  · cases hh : r.hold <;> simp [h2, hh] <;> omega

theorem nextP_cases (r : Ras) : (nextP r = 0 ∧ (r.pl = 89341 ∨ (r.pl = 89340 ∧ r.odd = true ∧ r.draw = true))) ∨ (nextP r = r.pl + 1 ∧ r.pl ≠ 89341 ∧ ¬ (r.pl = 89340 ∧ r.odd = true ∧ r.draw = true)) := by
  unfold nextP; split <;> rename_i hc
  · exact .inl ⟨rfl, hc⟩
  · exact .inr ⟨rfl, fun e => hc (.inl e), fun e => hc (.inr e)⟩

set_option maxHeartbeats 4000000 in
theorem p43 (r : Ras) (hr : r.valid = true) : bodyK (E0 gV noLoop) (callN (E0 gV noLoop) 5) 43 Try.f43 [r.sv] [] (fun x _ => onB (x.cl 0) (x = two r.step.sv (.i .i64 (nat01 r.clock)))) := by
  rw [valid_iff] at hr
  rw [t43]
  have hq := nextP_cases r
  unfold Ras.step Ras.clock
  generalize nextP r = P at hq
  obtain ⟨l, d, o, v, n, w, h⟩ := r
  simp only [Ras.pl] at hr hq
  have e1 : 0 ≤ P ∧ P < 89342 := by omega
  simp only [IntWalk.i64_in (d + 1) (by omega), IntWalk.i64_in (l + 1) (by omega), two, rsv, Ras.sv, Ras.goOn, clk, SV.tup.injEq, SVs.cons.injEq, SV.agg.injEq, SV.i.injEq, SV.b.injEq, and_true, true_and, nat01]
  repeat' refine br_in (fun _ => ?_) (fun _ => ?_)
  all_goals cases o <;> cases w <;> cases v <;> cases h
  all_goals simp at hr hq
  all_goals simp at *
  all_goals first
    | omega
    | (split <;> omega)
end Go.Sx

namespace Go.Sx
open Go.Proofs
set_option linter.unusedVariables false
set_option linter.unusedSimpArgs false

def pre0 : List SV → Prop := fun _ => True
def preR (p : Ras → Prop) (l : List SV) : Prop := match l with
  | [x] => match rasOf x with
    | some r => Chk (p r)
    | none => False
  | _ => False
theorem rasOf_sv (r : Ras) : rasOf r.sv = some r := rfl

def Ras.dotR (r : Ras) : Ras := if r.valid then r.step else r
def Ras.dotC (r : Ras) : Bool := r.valid && r.clock
def Ras.tickR (r : Ras) : Ras := r.dotR.dotR.dotR
def Ras.tickN (r : Ras) : Int := nat01 r.dotC + nat01 r.dotR.dotC + nat01 r.dotR.dotR.dotC

def cV : Con := .pure pre0 (onR fun r => .b r.valid)
def cD : Con := .pure (preR fun r => r.valid = true) (onR fun r => two r.step.sv (.i .i64 (nat01 r.clock)))
def cDot : Con := .pure pre0 (onR fun r => two r.dotR.sv (.b r.dotC))
def cT : Con := .pure (preR fun r => r.valid = true) (onR fun r => two r.tickR.sv (.i .i64 r.tickN))
def cTick : Con := .pure pre0 (onR fun r => two r.tickR.sv (.i .i64 r.tickN))
def g1 : List (Nat × Con) := [(27, cV), (28, cV), (43, cD)]
def g2 : List (Nat × Con) := (23, cDot) :: (24, cDot) :: g1

theorem t24 (r : Ras) : bodyK (E0 g1 noLoop) (callN (E0 g1 noLoop) 1) 24 Try.f24 [r.sv] [] (fun x _ => onB (x.cl 0) (x = two r.dotR.sv (.b r.dotC))) = (
  True ∧ br (!r.valid) (two r.sv (SV.b false) = two r.dotR.sv (SV.b r.dotC)) (Chk (r.valid = true) ∧ two r.step.sv (SV.b (nat01 r.clock == 1)) = two r.dotR.sv (SV.b r.dotC))) := by kernel_rfl
theorem t23 (r : Ras) : bodyK (E0 g1 noLoop) (callN (E0 g1 noLoop) 3) 23 Try.f23 [r.sv] [] (fun x _ => onB (x.cl 0) (x = two r.dotR.sv (.b r.dotC))) = (
  True ∧
  br (!r.valid) (two r.sv (SV.b false) = two r.dotR.sv (SV.b r.dotC))
    (br (r.line == 261 && r.dot == 339 && r.odd && r.draw) (two (rsv 0 0 (!r.odd) r.vbl r.nmi r.draw r.hold) (SV.b (r.draw && 0 == 260 && (decide (0 < 240) || 0 == 261))) = two r.dotR.sv (SV.b r.dotC))
      (br (IntKind.i64.wrap (r.dot + 1) == 341)
        (br ((IntKind.i64.wrap (r.line + 1)).tmod 262 == 0 && 0 == 0)
          (br ((IntKind.i64.wrap (r.line + 1)).tmod 262 != 241 || 0 != 1)
            (br ((IntKind.i64.wrap (r.line + 1)).tmod 262 == 261 && 0 == 1) (two (rsv ((IntKind.i64.wrap (r.line + 1)).tmod 262) 0 (!r.odd) false r.nmi r.draw r.hold) (SV.b (r.draw && 0 == 260 && (decide ((IntKind.i64.wrap (r.line + 1)).tmod 262 < 240) || (IntKind.i64.wrap (r.line + 1)).tmod 262 == 261))) = two r.dotR.sv (SV.b r.dotC))
              (two (rsv ((IntKind.i64.wrap (r.line + 1)).tmod 262) 0 (!r.odd) r.vbl r.nmi r.draw r.hold) (SV.b (r.draw && 0 == 260 && (decide ((IntKind.i64.wrap (r.line + 1)).tmod 262 < 240) || (IntKind.i64.wrap (r.line + 1)).tmod 262 == 261))) = two r.dotR.sv (SV.b r.dotC)))
            (br r.hold
              (br ((IntKind.i64.wrap (r.line + 1)).tmod 262 == 261 && 0 == 1) (two (rsv ((IntKind.i64.wrap (r.line + 1)).tmod 262) 0 (!r.odd) false r.nmi r.draw false) (SV.b (r.draw && 0 == 260 && (decide ((IntKind.i64.wrap (r.line + 1)).tmod 262 < 240) || (IntKind.i64.wrap (r.line + 1)).tmod 262 == 261))) = two r.dotR.sv (SV.b r.dotC))
                (two (rsv ((IntKind.i64.wrap (r.line + 1)).tmod 262) 0 (!r.odd) r.vbl r.nmi r.draw false) (SV.b (r.draw && 0 == 260 && (decide ((IntKind.i64.wrap (r.line + 1)).tmod 262 < 240) || (IntKind.i64.wrap (r.line + 1)).tmod 262 == 261))) = two r.dotR.sv (SV.b r.dotC)))
              (br ((IntKind.i64.wrap (r.line + 1)).tmod 262 == 261 && 0 == 1) (two (rsv ((IntKind.i64.wrap (r.line + 1)).tmod 262) 0 (!r.odd) false r.nmi r.draw r.hold) (SV.b (r.draw && 0 == 260 && (decide ((IntKind.i64.wrap (r.line + 1)).tmod 262 < 240) || (IntKind.i64.wrap (r.line + 1)).tmod 262 == 261))) = two r.dotR.sv (SV.b r.dotC))
                (two (rsv ((IntKind.i64.wrap (r.line + 1)).tmod 262) 0 (!r.odd) true r.nmi r.draw r.hold) (SV.b (r.draw && 0 == 260 && (decide ((IntKind.i64.wrap (r.line + 1)).tmod 262 < 240) || (IntKind.i64.wrap (r.line + 1)).tmod 262 == 261))) = two r.dotR.sv (SV.b r.dotC)))))
          (br ((IntKind.i64.wrap (r.line + 1)).tmod 262 != 241 || 0 != 1)
            (br ((IntKind.i64.wrap (r.line + 1)).tmod 262 == 261 && 0 == 1) (two (rsv ((IntKind.i64.wrap (r.line + 1)).tmod 262) 0 r.odd false r.nmi r.draw r.hold) (SV.b (r.draw && 0 == 260 && (decide ((IntKind.i64.wrap (r.line + 1)).tmod 262 < 240) || (IntKind.i64.wrap (r.line + 1)).tmod 262 == 261))) = two r.dotR.sv (SV.b r.dotC))
              (two (rsv ((IntKind.i64.wrap (r.line + 1)).tmod 262) 0 r.odd r.vbl r.nmi r.draw r.hold) (SV.b (r.draw && 0 == 260 && (decide ((IntKind.i64.wrap (r.line + 1)).tmod 262 < 240) || (IntKind.i64.wrap (r.line + 1)).tmod 262 == 261))) = two r.dotR.sv (SV.b r.dotC)))
            (br r.hold
              (br ((IntKind.i64.wrap (r.line + 1)).tmod 262 == 261 && 0 == 1) (two (rsv ((IntKind.i64.wrap (r.line + 1)).tmod 262) 0 r.odd false r.nmi r.draw false) (SV.b (r.draw && 0 == 260 && (decide ((IntKind.i64.wrap (r.line + 1)).tmod 262 < 240) || (IntKind.i64.wrap (r.line + 1)).tmod 262 == 261))) = two r.dotR.sv (SV.b r.dotC))
                (two (rsv ((IntKind.i64.wrap (r.line + 1)).tmod 262) 0 r.odd r.vbl r.nmi r.draw false) (SV.b (r.draw && 0 == 260 && (decide ((IntKind.i64.wrap (r.line + 1)).tmod 262 < 240) || (IntKind.i64.wrap (r.line + 1)).tmod 262 == 261))) = two r.dotR.sv (SV.b r.dotC)))
              (br ((IntKind.i64.wrap (r.line + 1)).tmod 262 == 261 && 0 == 1) (two (rsv ((IntKind.i64.wrap (r.line + 1)).tmod 262) 0 r.odd false r.nmi r.draw r.hold) (SV.b (r.draw && 0 == 260 && (decide ((IntKind.i64.wrap (r.line + 1)).tmod 262 < 240) || (IntKind.i64.wrap (r.line + 1)).tmod 262 == 261))) = two r.dotR.sv (SV.b r.dotC))
                (two (rsv ((IntKind.i64.wrap (r.line + 1)).tmod 262) 0 r.odd true r.nmi r.draw r.hold) (SV.b (r.draw && 0 == 260 && (decide ((IntKind.i64.wrap (r.line + 1)).tmod 262 < 240) || (IntKind.i64.wrap (r.line + 1)).tmod 262 == 261))) = two r.dotR.sv (SV.b r.dotC))))))
        (br (r.line == 0 && IntKind.i64.wrap (r.dot + 1) == 0)
          (br (r.line != 241 || IntKind.i64.wrap (r.dot + 1) != 1)
            (br (r.line == 261 && IntKind.i64.wrap (r.dot + 1) == 1) (two (rsv r.line (IntKind.i64.wrap (r.dot + 1)) (!r.odd) false r.nmi r.draw r.hold) (SV.b (r.draw && IntKind.i64.wrap (r.dot + 1) == 260 && (decide (r.line < 240) || r.line == 261))) = two r.dotR.sv (SV.b r.dotC))
              (two (rsv r.line (IntKind.i64.wrap (r.dot + 1)) (!r.odd) r.vbl r.nmi r.draw r.hold) (SV.b (r.draw && IntKind.i64.wrap (r.dot + 1) == 260 && (decide (r.line < 240) || r.line == 261))) = two r.dotR.sv (SV.b r.dotC)))
            (br r.hold
              (br (r.line == 261 && IntKind.i64.wrap (r.dot + 1) == 1) (two (rsv r.line (IntKind.i64.wrap (r.dot + 1)) (!r.odd) false r.nmi r.draw false) (SV.b (r.draw && IntKind.i64.wrap (r.dot + 1) == 260 && (decide (r.line < 240) || r.line == 261))) = two r.dotR.sv (SV.b r.dotC))
                (two (rsv r.line (IntKind.i64.wrap (r.dot + 1)) (!r.odd) r.vbl r.nmi r.draw false) (SV.b (r.draw && IntKind.i64.wrap (r.dot + 1) == 260 && (decide (r.line < 240) || r.line == 261))) = two r.dotR.sv (SV.b r.dotC)))
              (br (r.line == 261 && IntKind.i64.wrap (r.dot + 1) == 1) (two (rsv r.line (IntKind.i64.wrap (r.dot + 1)) (!r.odd) false r.nmi r.draw r.hold) (SV.b (r.draw && IntKind.i64.wrap (r.dot + 1) == 260 && (decide (r.line < 240) || r.line == 261))) = two r.dotR.sv (SV.b r.dotC))
                (two (rsv r.line (IntKind.i64.wrap (r.dot + 1)) (!r.odd) true r.nmi r.draw r.hold) (SV.b (r.draw && IntKind.i64.wrap (r.dot + 1) == 260 && (decide (r.line < 240) || r.line == 261))) = two r.dotR.sv (SV.b r.dotC)))))
          (br (r.line != 241 || IntKind.i64.wrap (r.dot + 1) != 1)
            (br (r.line == 261 && IntKind.i64.wrap (r.dot + 1) == 1) (two (rsv r.line (IntKind.i64.wrap (r.dot + 1)) r.odd false r.nmi r.draw r.hold) (SV.b (r.draw && IntKind.i64.wrap (r.dot + 1) == 260 && (decide (r.line < 240) || r.line == 261))) = two r.dotR.sv (SV.b r.dotC))
              (two (rsv r.line (IntKind.i64.wrap (r.dot + 1)) r.odd r.vbl r.nmi r.draw r.hold) (SV.b (r.draw && IntKind.i64.wrap (r.dot + 1) == 260 && (decide (r.line < 240) || r.line == 261))) = two r.dotR.sv (SV.b r.dotC)))
            (br r.hold
              (br (r.line == 261 && IntKind.i64.wrap (r.dot + 1) == 1) (two (rsv r.line (IntKind.i64.wrap (r.dot + 1)) r.odd false r.nmi r.draw false) (SV.b (r.draw && IntKind.i64.wrap (r.dot + 1) == 260 && (decide (r.line < 240) || r.line == 261))) = two r.dotR.sv (SV.b r.dotC))
                (two (rsv r.line (IntKind.i64.wrap (r.dot + 1)) r.odd r.vbl r.nmi r.draw false) (SV.b (r.draw && IntKind.i64.wrap (r.dot + 1) == 260 && (decide (r.line < 240) || r.line == 261))) = two r.dotR.sv (SV.b r.dotC)))
              (br (r.line == 261 && IntKind.i64.wrap (r.dot + 1) == 1) (two (rsv r.line (IntKind.i64.wrap (r.dot + 1)) r.odd false r.nmi r.draw r.hold) (SV.b (r.draw && IntKind.i64.wrap (r.dot + 1) == 260 && (decide (r.line < 240) || r.line == 261))) = two r.dotR.sv (SV.b r.dotC))
                (two (rsv r.line (IntKind.i64.wrap (r.dot + 1)) r.odd true r.nmi r.draw r.hold) (SV.b (r.draw && IntKind.i64.wrap (r.dot + 1) == 260 && (decide (r.line < 240) || r.line == 261))) = two r.dotR.sv (SV.b r.dotC))))))))) := by kernel_rfl
theorem t25 (r : Ras) : bodyK (E0 g2 noLoop) (callN (E0 g2 noLoop) 1) 25 Try.f25 [r.sv] [] (fun x _ => onB (x.cl 0) (x = two r.tickR.sv (.i .i64 r.tickN))) = (
  True ∧
  br r.dotC
    (True ∧
      br r.dotR.dotC (True ∧ br r.dotR.dotR.dotC (two r.dotR.dotR.dotR.sv (SV.i IntKind.i64 (IntKind.i64.wrap (IntKind.i64.wrap (IntKind.i64.wrap (0 + 1) + 1) + 1))) = two r.tickR.sv (SV.i IntKind.i64 r.tickN)) (two r.dotR.dotR.dotR.sv (SV.i IntKind.i64 (IntKind.i64.wrap (IntKind.i64.wrap (0 + 1) + 1))) = two r.tickR.sv (SV.i IntKind.i64 r.tickN)))
        (True ∧ br r.dotR.dotR.dotC (two r.dotR.dotR.dotR.sv (SV.i IntKind.i64 (IntKind.i64.wrap (IntKind.i64.wrap (0 + 1) + 1))) = two r.tickR.sv (SV.i IntKind.i64 r.tickN)) (two r.dotR.dotR.dotR.sv (SV.i IntKind.i64 (IntKind.i64.wrap (0 + 1))) = two r.tickR.sv (SV.i IntKind.i64 r.tickN))))
    (True ∧
      br r.dotR.dotC (True ∧ br r.dotR.dotR.dotC (two r.dotR.dotR.dotR.sv (SV.i IntKind.i64 (IntKind.i64.wrap (IntKind.i64.wrap (0 + 1) + 1))) = two r.tickR.sv (SV.i IntKind.i64 r.tickN)) (two r.dotR.dotR.dotR.sv (SV.i IntKind.i64 (IntKind.i64.wrap (0 + 1))) = two r.tickR.sv (SV.i IntKind.i64 r.tickN)))
        (True ∧ br r.dotR.dotR.dotC (two r.dotR.dotR.dotR.sv (SV.i IntKind.i64 (IntKind.i64.wrap (0 + 1))) = two r.tickR.sv (SV.i IntKind.i64 r.tickN)) (two r.dotR.dotR.dotR.sv (SV.i IntKind.i64 0) = two r.tickR.sv (SV.i IntKind.i64 r.tickN))))) := by kernel_rfl
theorem t44 (r : Ras) : bodyK (E0 g2 noLoop) (callN (E0 g2 noLoop) 1) 44 Try.f44 [r.sv] [] (fun x _ => onB (x.cl 0) (x = two r.tickR.sv (.i .i64 r.tickN))) = (
  Chk (r.valid = true) ∧ Chk (r.step.valid = true) ∧ Chk (r.step.step.valid = true) ∧ two r.step.step.step.sv (SV.i IntKind.i64 (IntKind.i64.wrap (IntKind.i64.wrap (nat01 r.clock + nat01 r.step.clock) + nat01 r.step.step.clock))) = two r.tickR.sv (SV.i IntKind.i64 r.tickN)) := by kernel_rfl

end Go.Sx

namespace Go.Sx
open Go.Proofs
set_option linter.unusedVariables false
set_option linter.unusedSimpArgs false

theorem step_valid {r : Ras} (h : r.valid = true) : r.step.valid = true := by
  rw [valid_iff] at h ⊢
  have hq := nextP_cases r
  unfold Ras.step
  generalize nextP r = P at hq
  obtain ⟨l, d, o, v, n, w, hh⟩ := r
  simp only [Ras.pl, Ras.goOn] at *
  have e1 : 0 ≤ P ∧ P < 89342 := by omega
  have e2 : P / 341 * 341 + P % 341 = P := by omega
  rw [e2]
  refine ⟨by omega, by omega, by omega, by omega, ?_, ?_⟩
  · cases v <;> cases hh <;> simp at * <;> (repeat' split) <;> (try simp) <;> omega
  · cases v <;> cases hh <;> simp at * <;> omega

theorem nat01_le (b : Bool) : 0 ≤ nat01 b ∧ nat01 b ≤ 1 := by cases b <;> simp [nat01]

theorem p24 (r : Ras) : bodyK (E0 g1 noLoop) (callN (E0 g1 noLoop) 1) 24 Try.f24 [r.sv] [] (fun x _ => onB (x.cl 0) (x = two r.dotR.sv (.b r.dotC))) := by
  rw [t24]
  refine ⟨trivial, br_in (fun h => ?_) (fun h => ?_)⟩
  · simp at h; simp [Ras.dotR, Ras.dotC, h]
  · simp at h; refine ⟨⟨h⟩, ?_⟩; simp [Ras.dotR, Ras.dotC, h]
    cases r.clock <;> rfl

set_option maxHeartbeats 4000000 in
theorem p23 (r : Ras) : bodyK (E0 g1 noLoop) (callN (E0 g1 noLoop) 3) 23 Try.f23 [r.sv] [] (fun x _ => onB (x.cl 0) (x = two r.dotR.sv (.b r.dotC))) := by
  rw [t23]
  refine ⟨trivial, br_in (fun h => ?_) (fun hv => ?_)⟩
  · simp at h; simp [Ras.dotR, Ras.dotC, h]
  · simp at hv
    simp only [Ras.dotR, Ras.dotC, hv, if_true, Bool.true_and]
    rw [valid_iff] at hv
    have hq := nextP_cases r
    unfold Ras.step Ras.clock
    generalize nextP r = P at hq
    obtain ⟨l, d, o, v, n, w, h⟩ := r
    simp only [Ras.pl] at hv hq
    have e1 : 0 ≤ P ∧ P < 89342 := by omega
    have e3 : (l + 1).tmod 262 = if l = 261 then 0 else l + 1 := by
      rw [Int.tmod_eq_emod_of_nonneg (by omega)]; split <;> omega
    simp only [IntWalk.i64_in (d + 1) (by omega), IntWalk.i64_in (l + 1) (by omega), e3, two, rsv, Ras.sv, Ras.goOn, clk, SV.tup.injEq, SVs.cons.injEq, SV.agg.injEq, SV.i.injEq, SV.b.injEq, and_true, true_and, nat01]
    repeat' refine br_in (fun _ => ?_) (fun _ => ?_)
    all_goals cases o <;> cases w <;> cases v <;> cases h
    all_goals simp at hv hq
    all_goals simp at *
    all_goals first
      | omega
      | (split at * <;> omega)
      | (apply bool_eq_iff; simp; omega)
      | (refine ⟨by omega, ?_⟩; apply bool_eq_iff; simp; omega)

theorem p25 (r : Ras) : bodyK (E0 g2 noLoop) (callN (E0 g2 noLoop) 1) 25 Try.f25 [r.sv] [] (fun x _ => onB (x.cl 0) (x = two r.tickR.sv (.i .i64 r.tickN))) := by
  rw [t25]
  refine ⟨trivial, br_in (fun h1 => ⟨trivial, br_in (fun h2 => ⟨trivial, br_in (fun h3 => ?_) (fun h3 => ?_)⟩) (fun h2 => ⟨trivial, br_in (fun h3 => ?_) (fun h3 => ?_)⟩)⟩) (fun h1 => ⟨trivial, br_in (fun h2 => ⟨trivial, br_in (fun h3 => ?_) (fun h3 => ?_)⟩) (fun h2 => ⟨trivial, br_in (fun h3 => ?_) (fun h3 => ?_)⟩)⟩)⟩ <;>
    (unfold Ras.tickR Ras.tickN; rw [h1, h2, h3]; rfl)

theorem p44 (r : Ras) (h : r.valid = true) : bodyK (E0 g2 noLoop) (callN (E0 g2 noLoop) 1) 44 Try.f44 [r.sv] [] (fun x _ => onB (x.cl 0) (x = two r.tickR.sv (.i .i64 r.tickN))) := by
  rw [t44]
  have h2 := step_valid h
  have h3 := step_valid h2
  refine ⟨⟨h⟩, ⟨h2⟩, ⟨h3⟩, ?_⟩
  have := nat01_le r.clock
  have := nat01_le r.step.clock
  have := nat01_le r.step.step.clock
  rw [IntWalk.i64_in (nat01 r.clock + nat01 r.step.clock) (by omega), IntWalk.i64_in _ (by omega)]
  simp [Ras.tickR, Ras.tickN, Ras.dotR, Ras.dotC, h, h2, h3]

/-! ### Contracts -/
theorem preR_some {p : Ras → Prop} {r : Ras} (h : preR p [r.sv]) : p r := Chk.ok (p := p r) h

theorem conR {gam : List (Nat × Con)} {loop : List (Nat × Nat × LCon)} (hg : GamOK (E0 gam loop)) (hlo : LoopsOK (E0 gam loop)) (n : Nat) {f : FuncId} {fn : Func} (hfn : Try.prog.funcs[f]? = some fn) {pre : List SV → Prop} {F : Ras → SV}
    (h : ∀ r : Ras, pre [r.sv] → bodyK (E0 gam loop) (callN (E0 gam loop) n) f fn [r.sv] [] (fun x _ => onB (x.cl 0) (x = F r))) : ConOK (E0 gam loop) f (.pure pre (onR F)) := by
  refine con_pure (E0_ok gam loop) hg hlo n hfn fun args v hv hp => ?_
  obtain ⟨r, rfl, rfl⟩ := onR_some hv
  exact h r hp

theorem gV_ok : GamOK (E0 gV noLoop) := gam_ok rfl trivial

theorem ConOK.of {gam gam' : List (Nat × Con)} {loop loop' : List (Nat × Nat × LCon)} {f : FuncId} {c : Con} (h : ConOK (E0 gam loop) f c) : ConOK (E0 gam' loop') f c := ConOK.env rfl rfl h

theorem con27 : ConOK (E0 gV noLoop) 27 cV := conR gV_ok (noLoops _) 5 Try.func27 fun r _ => p27 r
theorem con28 : ConOK (E0 gV noLoop) 28 cV := conR gV_ok (noLoops _) 5 Try.func28 fun r _ => p28 r
theorem con43 : ConOK (E0 gV noLoop) 43 cD := conR gV_ok (noLoops _) 5 Try.func43 fun r h => p43 r (preR_some (p := fun r => r.valid = true) h)
theorem g1_ok : GamOK (E0 g1 noLoop) := gam_ok rfl ⟨con27.of, con28.of, con43.of, trivial⟩
theorem con23 : ConOK (E0 g1 noLoop) 23 cDot := conR g1_ok (noLoops _) 3 Try.func23 fun r _ => p23 r
theorem con24 : ConOK (E0 g1 noLoop) 24 cDot := conR g1_ok (noLoops _) 1 Try.func24 fun r _ => p24 r
theorem g2_ok : GamOK (E0 g2 noLoop) := gam_ok rfl ⟨con23.of, con24.of, con27.of, con28.of, con43.of, trivial⟩
theorem con25 : ConOK (E0 g2 noLoop) 25 cTick := conR g2_ok (noLoops _) 1 Try.func25 fun r _ => p25 r
theorem con44 : ConOK (E0 g2 noLoop) 44 cT := conR g2_ok (noLoops _) 1 Try.func44 fun r h => p44 r (preR_some (p := fun r => r.valid = true) h)

end Go.Sx

namespace Go.Sx
open Go.Proofs
set_option linter.unusedVariables false
set_option linter.unusedSimpArgs false

def onRU (F : Ras → Int → SV) (l : List SV) : Option SV := match l with
  | [x, .i .u8 n] => match rasOf x with
    | some r => some (F r n)
    | none => none
  | _ => none
theorem onRU_some {F : Ras → Int → SV} {l : List SV} {v : SV} (h : onRU F l = some v) : ∃ r n, l = [r.sv, .i .u8 n] ∧ v = F r n := by
  unfold onRU at h
  split at h
  · split at h
    · rename_i r hr
      simp at h; subst h
      exact ⟨r, _, by rw [rasOf_some hr], rfl⟩
    · simp at h
  · simp at h
def onRN (F : Ras → Int → SV) (l : List SV) : Option SV := match l with
  | [x, .i .i64 n] => match rasOf x with
    | some r => some (F r n)
    | none => none
  | _ => none
theorem onRN_some {F : Ras → Int → SV} {l : List SV} {v : SV} (h : onRN F l = some v) : ∃ r n, l = [r.sv, .i .i64 n] ∧ v = F r n := by
  unfold onRN at h
  split at h
  · split at h
    · rename_i r hr
      simp at h; subst h
      exact ⟨r, _, by rw [rasOf_some hr], rfl⟩
    · simp at h
  · simp at h
def preRU (p : Ras → Int → Prop) (l : List SV) : Prop := match l with
  | [x, .i .u8 n] => match rasOf x with
    | some r => Chk (p r n)
    | none => False
  | _ => False
def preRN (p : Ras → Int → Prop) (l : List SV) : Prop := match l with
  | [x, .i .i64 n] => match rasOf x with
    | some r => Chk (p r n)
    | none => False
  | _ => False

def Ras.ctrl (r : Ras) (v : Int) : Ras := { r with nmi := if r.valid = true then decide (128 ≤ v) else r.nmi }
def Ras.mask (r : Ras) (v : Int) : Ras := { r with draw := if r.valid = true then iand .u8 v 24 != 0 else r.draw }
def Ras.up (r : Ras) : Bool := r.valid && r.vbl && r.nmi
def Ras.stV (r : Ras) : Int := if r.valid = true ∧ r.vbl = true then 128 else 0
def Ras.stR (r : Ras) : Ras := if r.valid = true then { r with vbl := false, hold := r.hold || decide (r.pl = 82181) } else r
def spf (n lo hi : Int) : Int := lo + (if n < 0 then -(n + 1) else n) % (hi - lo + 1)
def onSpan (l : List SV) : Option SV := match l with
  | [.i .i64 n, .i .i64 lo, .i .i64 hi] => some (.i .i64 (spf n lo hi))
  | _ => none
def spanOK (n lo hi : Int) : Prop := (-9223372036854775808 ≤ n ∧ n ≤ 9223372036854775807) ∧ 0 ≤ lo ∧ lo ≤ hi ∧ hi ≤ 4611686018427387904
def preSpan (l : List SV) : Prop := match l with
  | [.i .i64 n, .i .i64 lo, .i .i64 hi] => Chk (spanOK n lo hi)
  | _ => False
def cSpan : Con := .pure preSpan onSpan
def gS : List (Nat × Con) := [(36, cSpan)]
def Ras.nearL (r : Ras) : Bool := decide (241 < spf r.line 0 261 ∧ spf r.line 0 261 < 261) || decide (spf r.line 0 261 = 241 ∧ 0 < spf r.dot 0 340) || decide (spf r.line 0 261 = 261 ∧ spf r.dot 0 340 = 0)
def Ras.nearR (r : Ras) : Ras := { line := spf r.line 0 261, dot := spf r.dot 0 340, odd := r.odd, vbl := r.vbl && r.nearL, nmi := r.nmi, draw := r.draw, hold := r.hold && decide (spf r.line 0 261 = 241 ∧ spf r.dot 0 340 = 0) }

def u8 (n : Int) : Prop := 0 ≤ n ∧ n ≤ 255
def i64 (n : Int) : Prop := -9223372036854775808 ≤ n ∧ n ≤ 9223372036854775807
def Ras.fit (r : Ras) : Prop := i64 r.line ∧ i64 r.dot

def cCtrl : Con := .pure (preRU fun _ v => u8 v) (onRU fun r v => (r.ctrl v).sv)
def cMask : Con := .pure (preRU fun _ v => u8 v) (onRU fun r v => (r.mask v).sv)
def cLine : Con := .pure pre0 (onR fun r => .b r.up)
def cStat : Con := .pure pre0 (onR fun r => two (.i .u8 r.stV) r.stR.sv)
def cNear : Con := .pure (preR fun r => r.fit) (onR fun r => r.nearR.sv)
def g3 : List (Nat × Con) := [(36, cSpan), (25, cTick), (44, cT), (23, cDot), (24, cDot), (27, cV), (28, cV), (43, cD)]

theorem t36 (n lo hi : Int) : bodyK (E0 gV noLoop) (callN (E0 gV noLoop) 1) 36 Try.f36 [.i .i64 n, .i .i64 lo, .i .i64 hi] [] (fun x _ => onB (x.cl 0) (x = .i .i64 (spf n lo hi))) = (
  br (decide (n < 0)) (br (!decide (IntKind.i64.wrap (IntKind.i64.wrap (hi - lo) + 1) = 0)) (SV.i IntKind.i64 (IntKind.i64.wrap (lo + (IntKind.i64.wrap (0 - IntKind.i64.wrap (n + 1))).tmod (IntKind.i64.wrap (IntKind.i64.wrap (hi - lo) + 1)))) = SV.i IntKind.i64 (spf n lo hi)) False)
  (br (!decide (IntKind.i64.wrap (IntKind.i64.wrap (hi - lo) + 1) = 0)) (SV.i IntKind.i64 (IntKind.i64.wrap (lo + n.tmod (IntKind.i64.wrap (IntKind.i64.wrap (hi - lo) + 1)))) = SV.i IntKind.i64 (spf n lo hi)) False)) := by kernel_rfl
theorem t16 (r : Ras) (v : Int) : bodyK (E0 g3 noLoop) (callN (E0 g3 noLoop) 1) 16 Try.f16 [r.sv, .i .u8 v] [] (fun x _ => onB (x.cl 0) (x = (r.ctrl v).sv)) = (
  True ∧ br r.valid (rsv r.line r.dot r.odd r.vbl (iand IntKind.u8 v 128 != 0) r.draw r.hold = (r.ctrl v).sv) (r.sv = (r.ctrl v).sv)) := by kernel_rfl
theorem t21 (r : Ras) (v : Int) : bodyK (E0 g3 noLoop) (callN (E0 g3 noLoop) 1) 21 Try.f21 [r.sv, .i .u8 v] [] (fun x _ => onB (x.cl 0) (x = (r.ctrl v).sv)) = (
  True ∧ br r.valid (rsv r.line r.dot r.odd r.vbl (decide (128 ≤ v)) r.draw r.hold = (r.ctrl v).sv) (r.sv = (r.ctrl v).sv)) := by kernel_rfl
theorem t18 (r : Ras) (v : Int) : bodyK (E0 g3 noLoop) (callN (E0 g3 noLoop) 1) 18 Try.f18 [r.sv, .i .u8 v] [] (fun x _ => onB (x.cl 0) (x = (r.mask v).sv)) = (
  True ∧ br r.valid (rsv r.line r.dot r.odd r.vbl r.nmi (iand IntKind.u8 v 24 != 0) r.hold = (r.mask v).sv) (r.sv = (r.mask v).sv)) := by kernel_rfl
theorem t22 (r : Ras) (v : Int) : bodyK (E0 g3 noLoop) (callN (E0 g3 noLoop) 1) 22 Try.f22 [r.sv, .i .u8 v] [] (fun x _ => onB (x.cl 0) (x = (r.mask v).sv)) = (
  True ∧ br r.valid (rsv r.line r.dot r.odd r.vbl r.nmi (iand IntKind.u8 v 24 != 0) r.hold = (r.mask v).sv) (r.sv = (r.mask v).sv)) := by kernel_rfl
theorem t17 (r : Ras) : bodyK (E0 g3 noLoop) (callN (E0 g3 noLoop) 1) 17 Try.f17 [r.sv] [] (fun x _ => onB (x.cl 0) (x = .b r.up)) = (
  True ∧ SV.b (r.valid && r.vbl && r.nmi) = SV.b r.up) := by kernel_rfl
theorem t29 (r : Ras) : bodyK (E0 g3 noLoop) (callN (E0 g3 noLoop) 1) 29 Try.f29 [r.sv] [] (fun x _ => onB (x.cl 0) (x = .b r.up)) = (
  True ∧ SV.b (r.valid && r.vbl && r.nmi) = SV.b r.up) := by kernel_rfl
theorem t19 (r : Ras) : bodyK (E0 g3 noLoop) (callN (E0 g3 noLoop) 3) 19 Try.f19 [r.sv] [] (fun x _ => onB (x.cl 0) (x = two (.i .u8 r.stV) r.stR.sv)) = (
  True ∧
  br (!r.valid) (two (SV.i IntKind.u8 0) r.sv = two (SV.i IntKind.u8 r.stV) r.stR.sv)
    (br r.vbl (br (IntKind.i64.wrap (IntKind.i64.wrap (r.line * 341) + r.dot) == 82181) (two (SV.i IntKind.u8 128) (rsv r.line r.dot r.odd false r.nmi r.draw true) = two (SV.i IntKind.u8 r.stV) r.stR.sv) (two (SV.i IntKind.u8 128) (rsv r.line r.dot r.odd false r.nmi r.draw r.hold) = two (SV.i IntKind.u8 r.stV) r.stR.sv))
      (br (IntKind.i64.wrap (IntKind.i64.wrap (r.line * 341) + r.dot) == 82181) (two (SV.i IntKind.u8 0) (rsv r.line r.dot r.odd false r.nmi r.draw true) = two (SV.i IntKind.u8 r.stV) r.stR.sv) (two (SV.i IntKind.u8 0) (rsv r.line r.dot r.odd false r.nmi r.draw r.hold) = two (SV.i IntKind.u8 r.stV) r.stR.sv)))) := by kernel_rfl
theorem t20 (r : Ras) : bodyK (E0 g3 noLoop) (callN (E0 g3 noLoop) 1) 20 Try.f20 [r.sv] [] (fun x _ => onB (x.cl 0) (x = two (.i .u8 r.stV) r.stR.sv)) = (
  True ∧
  br (!r.valid) (two (SV.i IntKind.u8 0) r.sv = two (SV.i IntKind.u8 r.stV) r.stR.sv)
    (br r.vbl (br (r.line == 241 && r.dot == 0) (two (SV.i IntKind.u8 128) (rsv r.line r.dot r.odd false r.nmi r.draw true) = two (SV.i IntKind.u8 r.stV) r.stR.sv) (two (SV.i IntKind.u8 128) (rsv r.line r.dot r.odd false r.nmi r.draw r.hold) = two (SV.i IntKind.u8 r.stV) r.stR.sv))
      (br (r.line == 241 && r.dot == 0) (two (SV.i IntKind.u8 0) (rsv r.line r.dot r.odd false r.nmi r.draw true) = two (SV.i IntKind.u8 r.stV) r.stR.sv) (two (SV.i IntKind.u8 0) (rsv r.line r.dot r.odd false r.nmi r.draw r.hold) = two (SV.i IntKind.u8 r.stV) r.stR.sv)))) := by kernel_rfl
theorem t15 (r : Ras) : bodyK (E0 g3 noLoop) (callN (E0 g3 noLoop) 3) 15 Try.f15 [r.sv] [] (fun x _ => onB (x.cl 0) (x = r.nearR.sv)) = (
  Chk (spanOK r.line 0 261) ∧ Chk (spanOK r.dot 0 340) ∧ rsv (spf r.line 0 261) (spf r.dot 0 340) r.odd (r.vbl && (decide (241 < spf r.line 0 261) && decide (spf r.line 0 261 < 261) || spf r.line 0 261 == 241 && decide (0 < spf r.dot 0 340) || spf r.line 0 261 == 261 && spf r.dot 0 340 == 0)) r.nmi r.draw (r.hold && spf r.line 0 261 == 241 && spf r.dot 0 340 == 0) = r.nearR.sv) := by kernel_rfl
theorem t26 (r : Ras) : bodyK (E0 g3 noLoop) (callN (E0 g3 noLoop) 1) 26 Try.f26 [r.sv] [] (fun x _ => onB (x.cl 0) (x = two r.tickR.sv (.i .i64 r.tickN))) = (
  True ∧ br (!r.valid) (two r.sv (SV.i IntKind.i64 0) = two r.tickR.sv (SV.i IntKind.i64 r.tickN)) (Chk (r.valid = true) ∧ two r.tickR.sv (SV.i IntKind.i64 r.tickN) = two r.tickR.sv (SV.i IntKind.i64 r.tickN))) := by kernel_rfl

end Go.Sx

namespace Go.Sx
open Go.Proofs
set_option linter.unusedVariables false
set_option linter.unusedSimpArgs false

theorem p36 (n lo hi : Int) (hn : i64 n) (h1 : 0 ≤ lo) (h2 : lo ≤ hi) (h3 : hi ≤ 4611686018427387904) :
    bodyK (E0 gV noLoop) (callN (E0 gV noLoop) 1) 36 Try.f36 [.i .i64 n, .i .i64 lo, .i .i64 hi] [] (fun x _ => onB (x.cl 0) (x = .i .i64 (spf n lo hi))) := by
  rw [t36]
  unfold i64 at hn
  have hm : IntKind.i64.wrap (IntKind.i64.wrap (hi - lo) + 1) = hi - lo + 1 := by
    rw [IntWalk.i64_in (hi - lo) (by omega), IntWalk.i64_in _ (by omega)]
  rw [hm]
  have key : ∀ m : Int, 0 ≤ m → m % (hi - lo + 1) = m.tmod (hi - lo + 1) ∧ 0 ≤ m % (hi - lo + 1) ∧ m % (hi - lo + 1) < hi - lo + 1 := fun m hm =>
    ⟨(Int.tmod_eq_emod_of_nonneg hm).symm, Int.emod_nonneg _ (by omega), Int.emod_lt_of_pos _ (by omega)⟩
  refine br_in (fun h => ?_) (fun h => ?_) <;> simp at h
  · rw [IntWalk.i64_in (n + 1) (by omega), IntWalk.i64_in (0 - (n + 1)) (by omega)]
    obtain ⟨k1, k2, k3⟩ := key (0 - (n + 1)) (by omega)
    refine onB_in (by simp; omega) ?_
    rw [← k1, IntWalk.i64_in _ (by omega)]
    unfold spf; rw [if_pos h]; congr 4; omega
  · obtain ⟨k1, k2, k3⟩ := key n (by omega)
    refine onB_in (by simp; omega) ?_
    rw [← k1, IntWalk.i64_in _ (by omega)]
    unfold spf; rw [if_neg (by omega)]

theorem and128 (v : Int) (h : u8 v) : (iand .u8 v 128 != 0) = decide (128 ≤ v) := by
  obtain ⟨h1, h2⟩ := h
  have key : ∀ k : Nat, k < 256 → (iand .u8 (k : Int) 128 != 0) = decide (128 ≤ (k : Int)) := by decide +kernel
  have e : v = (v.toNat : Int) := by omega
  rw [e]; exact key _ (by omega)

theorem i64_spf (n lo hi : Int) (h1 : 0 ≤ lo) (h2 : lo ≤ hi) : lo ≤ spf n lo hi ∧ spf n lo hi ≤ hi := by
  unfold spf
  have := Int.emod_nonneg (if n < 0 then -(n + 1) else n) (by omega : hi - lo + 1 ≠ 0)
  have := Int.emod_lt_of_pos (if n < 0 then -(n + 1) else n) (by omega : 0 < hi - lo + 1)
  omega

theorem p16 (r : Ras) (v : Int) (h : u8 v) : bodyK (E0 g3 noLoop) (callN (E0 g3 noLoop) 1) 16 Try.f16 [r.sv, .i .u8 v] [] (fun x _ => onB (x.cl 0) (x = (r.ctrl v).sv)) := by
  rw [t16, and128 v h]
  refine ⟨trivial, br_in (fun h => ?_) (fun h => ?_)⟩ <;> simp [Ras.ctrl, h, rsv, Ras.sv]
theorem p21 (r : Ras) (v : Int) : bodyK (E0 g3 noLoop) (callN (E0 g3 noLoop) 1) 21 Try.f21 [r.sv, .i .u8 v] [] (fun x _ => onB (x.cl 0) (x = (r.ctrl v).sv)) := by
  rw [t21]
  refine ⟨trivial, br_in (fun h => ?_) (fun h => ?_)⟩ <;> simp [Ras.ctrl, h, rsv, Ras.sv]
theorem p18 (r : Ras) (v : Int) : bodyK (E0 g3 noLoop) (callN (E0 g3 noLoop) 1) 18 Try.f18 [r.sv, .i .u8 v] [] (fun x _ => onB (x.cl 0) (x = (r.mask v).sv)) := by
  rw [t18]
  refine ⟨trivial, br_in (fun h => ?_) (fun h => ?_)⟩ <;> simp [Ras.mask, h, rsv, Ras.sv]
theorem p22 (r : Ras) (v : Int) : bodyK (E0 g3 noLoop) (callN (E0 g3 noLoop) 1) 22 Try.f22 [r.sv, .i .u8 v] [] (fun x _ => onB (x.cl 0) (x = (r.mask v).sv)) := by
  rw [t22]
  refine ⟨trivial, br_in (fun h => ?_) (fun h => ?_)⟩ <;> simp [Ras.mask, h, rsv, Ras.sv]
theorem p17 (r : Ras) : bodyK (E0 g3 noLoop) (callN (E0 g3 noLoop) 1) 17 Try.f17 [r.sv] [] (fun x _ => onB (x.cl 0) (x = .b r.up)) := by
  rw [t17]; exact ⟨trivial, rfl⟩
theorem p29 (r : Ras) : bodyK (E0 g3 noLoop) (callN (E0 g3 noLoop) 1) 29 Try.f29 [r.sv] [] (fun x _ => onB (x.cl 0) (x = .b r.up)) := by
  rw [t29]; exact ⟨trivial, rfl⟩

theorem pl_wrap {r : Ras} (h : r.valid = true) : IntKind.i64.wrap (IntKind.i64.wrap (r.line * 341) + r.dot) = r.pl := by
  rw [valid_iff] at h
  unfold Ras.pl at *
  rw [IntWalk.i64_in (r.line * 341) (by omega), IntWalk.i64_in _ (by omega)]

theorem p19 (r : Ras) : bodyK (E0 g3 noLoop) (callN (E0 g3 noLoop) 3) 19 Try.f19 [r.sv] [] (fun x _ => onB (x.cl 0) (x = two (.i .u8 r.stV) r.stR.sv)) := by
  rw [t19]
  refine ⟨trivial, br_in (fun h => ?_) (fun h => ?_)⟩
  · simp at h; simp [Ras.stV, Ras.stR, h]
  · simp at h
    rw [pl_wrap h]
    refine br_in (fun h1 => br_in (fun h2 => ?_) (fun h2 => ?_)) (fun h1 => br_in (fun h2 => ?_) (fun h2 => ?_)) <;>
      simp at h2 <;> simp [Ras.stV, Ras.stR, h, h1, h2, rsv, Ras.sv]
theorem p20 (r : Ras) : bodyK (E0 g3 noLoop) (callN (E0 g3 noLoop) 1) 20 Try.f20 [r.sv] [] (fun x _ => onB (x.cl 0) (x = two (.i .u8 r.stV) r.stR.sv)) := by
  rw [t20]
  refine ⟨trivial, br_in (fun h => ?_) (fun h => ?_)⟩
  · simp at h; simp [Ras.stV, Ras.stR, h]
  · simp at h
    have e : (r.line == 241 && r.dot == 0) = decide (r.pl = 82181) := by
      rw [valid_iff] at h
      unfold Ras.pl at *
      apply bool_eq_iff; simp; omega
    rw [e]
    refine br_in (fun h1 => br_in (fun h2 => ?_) (fun h2 => ?_)) (fun h1 => br_in (fun h2 => ?_) (fun h2 => ?_)) <;>
      simp at h2 <;> simp [Ras.stV, Ras.stR, h, h1, h2, rsv, Ras.sv]
theorem p26 (r : Ras) : bodyK (E0 g3 noLoop) (callN (E0 g3 noLoop) 1) 26 Try.f26 [r.sv] [] (fun x _ => onB (x.cl 0) (x = two r.tickR.sv (.i .i64 r.tickN))) := by
  rw [t26]
  refine ⟨trivial, br_in (fun h => ?_) (fun h => ?_)⟩
  · simp at h; simp [Ras.tickR, Ras.tickN, Ras.dotR, Ras.dotC, h, nat01]
  · simp at h; exact ⟨⟨h⟩, rfl⟩
theorem p15 (r : Ras) (h : r.fit) : bodyK (E0 g3 noLoop) (callN (E0 g3 noLoop) 3) 15 Try.f15 [r.sv] [] (fun x _ => onB (x.cl 0) (x = r.nearR.sv)) := by
  rw [t15]
  refine ⟨⟨h.1, by omega⟩, ⟨h.2, by omega⟩, ?_⟩
  simp only [rsv, Ras.sv, Ras.nearR, Ras.nearL]
  congr 9 <;> (try (apply bool_eq_iff; simp [and_assoc]; done))

/-! ### Contracts -/
theorem conRU {gam : List (Nat × Con)} {loop : List (Nat × Nat × LCon)} (hg : GamOK (E0 gam loop)) (hlo : LoopsOK (E0 gam loop)) (n : Nat) {f : FuncId} {fn : Func} (hfn : Try.prog.funcs[f]? = some fn) {p : Ras → Int → Prop} {F : Ras → Int → SV}
    (h : ∀ (r : Ras) (v : Int), p r v → bodyK (E0 gam loop) (callN (E0 gam loop) n) f fn [r.sv, .i .u8 v] [] (fun x _ => onB (x.cl 0) (x = F r v))) : ConOK (E0 gam loop) f (.pure (preRU p) (onRU F)) := by
  refine con_pure (E0_ok gam loop) hg hlo n hfn fun args v hv hp => ?_
  obtain ⟨r, k, rfl, rfl⟩ := onRU_some hv
  exact h r k (Chk.ok (p := p r k) hp)
theorem conRN {gam : List (Nat × Con)} {loop : List (Nat × Nat × LCon)} (hg : GamOK (E0 gam loop)) (hlo : LoopsOK (E0 gam loop)) (n : Nat) {f : FuncId} {fn : Func} (hfn : Try.prog.funcs[f]? = some fn) {p : Ras → Int → Prop} {F : Ras → Int → SV}
    (h : ∀ (r : Ras) (v : Int), p r v → bodyK (E0 gam loop) (callN (E0 gam loop) n) f fn [r.sv, .i .i64 v] [] (fun x _ => onB (x.cl 0) (x = F r v))) : ConOK (E0 gam loop) f (.pure (preRN p) (onRN F)) := by
  refine con_pure (E0_ok gam loop) hg hlo n hfn fun args v hv hp => ?_
  obtain ⟨r, k, rfl, rfl⟩ := onRN_some hv
  exact h r k (Chk.ok (p := p r k) hp)

theorem con36 : ConOK (E0 gV noLoop) 36 cSpan := by
  refine con_pure (E0_ok _ _) gV_ok (noLoops _) 1 Try.func36 fun args v hv hp => ?_
  unfold onSpan at hv
  split at hv
  · simp at hv; subst hv
    rename_i n lo hi
    have := Chk.ok (p := spanOK n lo hi) hp
    exact p36 n lo hi this.1 this.2.1 this.2.2.1 this.2.2.2
  · simp at hv
theorem g3_ok : GamOK (E0 g3 noLoop) := gam_ok rfl ⟨con36.of, con25.of, con44.of, con23.of, con24.of, con27.of, con28.of, con43.of, trivial⟩
theorem con15 : ConOK (E0 g3 noLoop) 15 cNear := conR g3_ok (noLoops _) 3 Try.func15 fun r h => p15 r (preR_some (p := fun r => r.fit) h)
theorem con16 : ConOK (E0 g3 noLoop) 16 cCtrl := conRU g3_ok (noLoops _) 1 Try.func16 fun r v h => p16 r v h
theorem con21 : ConOK (E0 g3 noLoop) 21 cCtrl := conRU g3_ok (noLoops _) 1 Try.func21 fun r v h => p21 r v
theorem con18 : ConOK (E0 g3 noLoop) 18 cMask := conRU g3_ok (noLoops _) 1 Try.func18 fun r v h => p18 r v
theorem con22 : ConOK (E0 g3 noLoop) 22 cMask := conRU g3_ok (noLoops _) 1 Try.func22 fun r v h => p22 r v
theorem con17 : ConOK (E0 g3 noLoop) 17 cLine := conR g3_ok (noLoops _) 1 Try.func17 fun r _ => p17 r
theorem con29 : ConOK (E0 g3 noLoop) 29 cLine := conR g3_ok (noLoops _) 1 Try.func29 fun r _ => p29 r
theorem con19 : ConOK (E0 g3 noLoop) 19 cStat := conR g3_ok (noLoops _) 3 Try.func19 fun r _ => p19 r
theorem con20 : ConOK (E0 g3 noLoop) 20 cStat := conR g3_ok (noLoops _) 1 Try.func20 fun r _ => p20 r
theorem con26 : ConOK (E0 g3 noLoop) 26 cTick := conR g3_ok (noLoops _) 1 Try.func26 fun r _ => p26 r
end Go.Sx

namespace Go.Sx
open Go.Proofs
set_option linter.unusedVariables false
set_option linter.unusedSimpArgs false

def g4 : List (Nat × Con) := [(15, cNear), (16, cCtrl), (21, cCtrl), (18, cMask), (22, cMask), (17, cLine), (29, cLine), (19, cStat), (20, cStat), (36, cSpan), (25, cTick), (26, cTick), (23, cDot), (24, cDot), (27, cV), (28, cV)]

theorem t3 (r : Ras) (v w : Int) : bodyK (E0 g4 noLoop) (callN (E0 g4 noLoop) 1) 3 Try.f3 [r.sv, .i .u8 v, .i .u8 w] [] (fun x _ => isTrue x) = (
  Chk r.fit ∧
  Chk (u8 (iandn IntKind.u8 v 128)) ∧
    Chk (u8 (ior IntKind.u8 v 128)) ∧
      True ∧
        br (!((Ras.mk 250 r.nearR.dot r.nearR.odd true r.nearR.nmi r.nearR.draw false).ctrl (iandn IntKind.u8 v 128)).up && true)
          (True ∧
            br (((Ras.mk 250 r.nearR.dot r.nearR.odd true r.nearR.nmi r.nearR.draw false).ctrl (iandn IntKind.u8 v 128)).up || !(((Ras.mk 250 r.nearR.dot r.nearR.odd true r.nearR.nmi r.nearR.draw false).ctrl (iandn IntKind.u8 v 128)).ctrl (ior IntKind.u8 v 128)).up) (false = true)
              (Chk (u8 (ior IntKind.u8 w 8)) ∧
                Chk (u8 (ior IntKind.u8 w 16)) ∧
                  Chk (u8 (iandn IntKind.u8 w 24)) ∧
                    br
                      (!((((Ras.mk 250 r.nearR.dot r.nearR.odd true r.nearR.nmi r.nearR.draw false).ctrl (iandn IntKind.u8 v 128)).ctrl (ior IntKind.u8 v 128)).mask (ior IntKind.u8 w 8)).draw || !(((((Ras.mk 250 r.nearR.dot r.nearR.odd true r.nearR.nmi r.nearR.draw false).ctrl (iandn IntKind.u8 v 128)).ctrl (ior IntKind.u8 v 128)).mask (ior IntKind.u8 w 8)).mask (ior IntKind.u8 w 16)).draw ||
                            ((((((Ras.mk 250 r.nearR.dot r.nearR.odd true r.nearR.nmi r.nearR.draw false).ctrl (iandn IntKind.u8 v 128)).ctrl (ior IntKind.u8 v 128)).mask (ior IntKind.u8 w 8)).mask (ior IntKind.u8 w 16)).mask (iandn IntKind.u8 w 24)).draw ||
                          !(((Ras.mk 250 r.nearR.dot r.nearR.odd true r.nearR.nmi r.nearR.draw false).ctrl (iandn IntKind.u8 v 128)).ctrl (ior IntKind.u8 v 128)).nmi ||
                        ((Ras.mk 250 r.nearR.dot r.nearR.odd true r.nearR.nmi r.nearR.draw false).ctrl (iandn IntKind.u8 v 128)).nmi)
                      (false = true)
                      ((((((((Ras.mk 250 r.nearR.dot r.nearR.odd true r.nearR.nmi r.nearR.draw false).ctrl (iandn IntKind.u8 v 128)).ctrl (ior IntKind.u8 v 128)).mask (ior IntKind.u8 w 8)).mask (ior IntKind.u8 w 16)).mask (iandn IntKind.u8 w 24)).line == 250 &&
                          (((((((Ras.mk 250 r.nearR.dot r.nearR.odd true r.nearR.nmi r.nearR.draw false).ctrl (iandn IntKind.u8 v 128)).ctrl (ior IntKind.u8 v 128)).mask (ior IntKind.u8 w 8)).mask (ior IntKind.u8 w 16)).mask (iandn IntKind.u8 w 24)).dot == r.nearR.dot &&
                            (((((((Ras.mk 250 r.nearR.dot r.nearR.odd true r.nearR.nmi r.nearR.draw false).ctrl (iandn IntKind.u8 v 128)).ctrl (ior IntKind.u8 v 128)).mask (ior IntKind.u8 w 8)).mask (ior IntKind.u8 w 16)).mask (iandn IntKind.u8 w 24)).odd == r.nearR.odd &&
                              (((((((Ras.mk 250 r.nearR.dot r.nearR.odd true r.nearR.nmi r.nearR.draw false).ctrl (iandn IntKind.u8 v 128)).ctrl (ior IntKind.u8 v 128)).mask (ior IntKind.u8 w 8)).mask (ior IntKind.u8 w 16)).mask (iandn IntKind.u8 w 24)).vbl == true &&
                                (r.nearR.nmi == r.nearR.nmi && (r.nearR.draw == r.nearR.draw && (((((((Ras.mk 250 r.nearR.dot r.nearR.odd true r.nearR.nmi r.nearR.draw false).ctrl (iandn IntKind.u8 v 128)).ctrl (ior IntKind.u8 v 128)).mask (ior IntKind.u8 w 8)).mask (ior IntKind.u8 w 16)).mask (iandn IntKind.u8 w 24)).hold == false && true))))))) =
                        true)))
          (br (((Ras.mk 250 r.nearR.dot r.nearR.odd true r.nearR.nmi r.nearR.draw false).ctrl (iandn IntKind.u8 v 128)).up || !false) (false = true)
            (Chk (u8 (ior IntKind.u8 w 8)) ∧
              Chk (u8 (ior IntKind.u8 w 16)) ∧
                Chk (u8 (iandn IntKind.u8 w 24)) ∧
                  br
                    (!((((Ras.mk 250 r.nearR.dot r.nearR.odd true r.nearR.nmi r.nearR.draw false).ctrl (iandn IntKind.u8 v 128)).ctrl (ior IntKind.u8 v 128)).mask (ior IntKind.u8 w 8)).draw || !(((((Ras.mk 250 r.nearR.dot r.nearR.odd true r.nearR.nmi r.nearR.draw false).ctrl (iandn IntKind.u8 v 128)).ctrl (ior IntKind.u8 v 128)).mask (ior IntKind.u8 w 8)).mask (ior IntKind.u8 w 16)).draw ||
                          ((((((Ras.mk 250 r.nearR.dot r.nearR.odd true r.nearR.nmi r.nearR.draw false).ctrl (iandn IntKind.u8 v 128)).ctrl (ior IntKind.u8 v 128)).mask (ior IntKind.u8 w 8)).mask (ior IntKind.u8 w 16)).mask (iandn IntKind.u8 w 24)).draw ||
                        !(((Ras.mk 250 r.nearR.dot r.nearR.odd true r.nearR.nmi r.nearR.draw false).ctrl (iandn IntKind.u8 v 128)).ctrl (ior IntKind.u8 v 128)).nmi ||
                      ((Ras.mk 250 r.nearR.dot r.nearR.odd true r.nearR.nmi r.nearR.draw false).ctrl (iandn IntKind.u8 v 128)).nmi)
                    (false = true)
                    ((((((((Ras.mk 250 r.nearR.dot r.nearR.odd true r.nearR.nmi r.nearR.draw false).ctrl (iandn IntKind.u8 v 128)).ctrl (ior IntKind.u8 v 128)).mask (ior IntKind.u8 w 8)).mask (ior IntKind.u8 w 16)).mask (iandn IntKind.u8 w 24)).line == 250 &&
                        (((((((Ras.mk 250 r.nearR.dot r.nearR.odd true r.nearR.nmi r.nearR.draw false).ctrl (iandn IntKind.u8 v 128)).ctrl (ior IntKind.u8 v 128)).mask (ior IntKind.u8 w 8)).mask (ior IntKind.u8 w 16)).mask (iandn IntKind.u8 w 24)).dot == r.nearR.dot &&
                          (((((((Ras.mk 250 r.nearR.dot r.nearR.odd true r.nearR.nmi r.nearR.draw false).ctrl (iandn IntKind.u8 v 128)).ctrl (ior IntKind.u8 v 128)).mask (ior IntKind.u8 w 8)).mask (ior IntKind.u8 w 16)).mask (iandn IntKind.u8 w 24)).odd == r.nearR.odd &&
                            (((((((Ras.mk 250 r.nearR.dot r.nearR.odd true r.nearR.nmi r.nearR.draw false).ctrl (iandn IntKind.u8 v 128)).ctrl (ior IntKind.u8 v 128)).mask (ior IntKind.u8 w 8)).mask (ior IntKind.u8 w 16)).mask (iandn IntKind.u8 w 24)).vbl == true &&
                              (r.nearR.nmi == r.nearR.nmi && (r.nearR.draw == r.nearR.draw && (((((((Ras.mk 250 r.nearR.dot r.nearR.odd true r.nearR.nmi r.nearR.draw false).ctrl (iandn IntKind.u8 v 128)).ctrl (ior IntKind.u8 v 128)).mask (ior IntKind.u8 w 8)).mask (ior IntKind.u8 w 16)).mask (iandn IntKind.u8 w 24)).hold == false && true))))))) =
                      true)))) := by kernel_rfl
theorem t4 (r : Ras) (v : Int) : bodyK (E0 g4 noLoop) (callN (E0 g4 noLoop) 1) 4 Try.f4 [r.sv, .i .u8 v] [] (fun x _ => isTrue x) = (
  True ∧
  True ∧
    Chk (u8 v) ∧
      Chk (u8 v) ∧
        Chk (u8 v) ∧
          Chk (u8 v) ∧
            (r.stV == r.stV && (r.stR.line == r.stR.line && (r.stR.dot == r.stR.dot && (r.stR.odd == r.stR.odd && (r.stR.vbl == r.stR.vbl && (r.stR.nmi == r.stR.nmi && (r.stR.draw == r.stR.draw && (r.stR.hold == r.stR.hold && true))))))) &&
                  ((r.ctrl v).line == (r.ctrl v).line && ((r.ctrl v).dot == (r.ctrl v).dot && ((r.ctrl v).odd == (r.ctrl v).odd && ((r.ctrl v).vbl == (r.ctrl v).vbl && ((r.ctrl v).nmi == (r.ctrl v).nmi && ((r.ctrl v).draw == (r.ctrl v).draw && ((r.ctrl v).hold == (r.ctrl v).hold && true))))))) &&
                ((r.mask v).line == (r.mask v).line && ((r.mask v).dot == (r.mask v).dot && ((r.mask v).odd == (r.mask v).odd && ((r.mask v).vbl == (r.mask v).vbl && ((r.mask v).nmi == (r.mask v).nmi && ((r.mask v).draw == (r.mask v).draw && ((r.mask v).hold == (r.mask v).hold && true)))))))) =
              true) := by kernel_rfl
theorem t5 (r : Ras) : bodyK (E0 g4 noLoop) (callN (E0 g4 noLoop) 1) 5 Try.f5 [r.sv] [] (fun x _ => isTrue x) = (
  True ∧
  True ∧
    True ∧
      True ∧
        True ∧
          True ∧
            (r.dotR.line == r.dotR.line && (r.dotR.dot == r.dotR.dot && (r.dotR.odd == r.dotR.odd && (r.dotR.vbl == r.dotR.vbl && (r.dotR.nmi == r.dotR.nmi && (r.dotR.draw == r.dotR.draw && (r.dotR.hold == r.dotR.hold && true)))))) && r.dotC == r.dotC &&
                    (r.tickR.line == r.tickR.line && (r.tickR.dot == r.tickR.dot && (r.tickR.odd == r.tickR.odd && (r.tickR.vbl == r.tickR.vbl && (r.tickR.nmi == r.tickR.nmi && (r.tickR.draw == r.tickR.draw && (r.tickR.hold == r.tickR.hold && true))))))) &&
                  r.tickN == r.tickN &&
                r.valid == r.valid) =
              true) := by kernel_rfl

end Go.Sx

namespace Go.Sx
open Go.Proofs
set_option linter.unusedVariables false
set_option linter.unusedSimpArgs false

theorem g4_ok : GamOK (E0 g4 noLoop) :=
  gam_ok rfl ⟨con15.of, con16.of, con21.of, con18.of, con22.of, con17.of, con29.of, con19.of, con20.of, con36.of, con25.of, con26.of, con23.of, con24.of, con27.of, con28.of, trivial⟩

theorem inK_i64 {n : Int} (h : inK .i64 n) : i64 n := by simpa [inK, i64, IntKind.min, IntKind.max, IntKind.signed, IntKind.bits] using h
theorem inK_u8 {n : Int} (h : inK .u8 n) : u8 n := by simpa [inK, u8, IntKind.min, IntKind.max, IntKind.signed, IntKind.bits] using h

/-- The argument types of this seat. -/
theorem is_bool {T : TypeId} {d : Nat} {sv : SV} (hu : Try.prog.underlying T = some .bool) (h : Is Try.prog (d + 1) T sv) : ∃ b, sv = .b b := by
  simp only [Is, hu] at h; exact h
theorem is_int {T : TypeId} {k : IntKind} {d : Nat} {sv : SV} (hu : Try.prog.underlying T = some (.int k)) (h : Is Try.prog (d + 1) T sv) : ∃ n, sv = .i k n ∧ inK k n := by
  simp only [Is, hu] at h; exact h
theorem und3 : Try.prog.underlying 3 = some (.int .i64) := by kernel_rfl
theorem und4 : Try.prog.underlying 4 = some .bool := by kernel_rfl
theorem und5 : Try.prog.underlying 5 = some (.int .u8) := by kernel_rfl
def fTys (P : Program) (T : TypeId) : Option (List TypeId) := match P.underlying T with
  | some (.struct fs) => some (fs.toList.map (·.type))
  | _ => none
def IsT (is : TypeId → SV → Prop) : List TypeId → SVs → Prop
  | [], l => l = .nil
  | t :: tl, l => ∃ a r, l = .cons a r ∧ is t a ∧ IsT is tl r
theorem IsF_T {is : TypeId → SV → Prop} : ∀ {fs : List Field} {l : SVs}, IsF is fs l → IsT is (fs.map (·.type)) l
  | [], l, h => h
  | f :: fs, l, h => by
    obtain ⟨a, r, h1, h2, h3⟩ := h
    exact ⟨a, r, h1, h2, IsF_T h3⟩
theorem is_struct {P : Program} {T : TypeId} {ts : List TypeId} {d : Nat} {sv : SV} (hu : fTys P T = some ts) (h : Is P (d + 1) T sv) : ∃ l, sv = .agg l ∧ IsT (Is P d) ts l := by
  unfold fTys at hu
  split at hu
  · rename_i fs hf
    simp at hu; subst hu
    simp only [Is, hf] at h
    obtain ⟨l, h1, h2⟩ := h
    exact ⟨l, h1, IsF_T h2⟩
  · simp at hu
theorem und23 : fTys Try.prog 23 = some [3, 3, 4, 4, 4, 4, 4] := by kernel_rfl
theorem is_ras {d : Nat} {sv : SV} (h : Is Try.prog (d + 2) 23 sv) : ∃ r : Ras, sv = r.sv ∧ r.fit := by
  obtain ⟨l, rfl, g0⟩ := is_struct und23 h
  obtain ⟨a1, l1, rfl, h1, g1⟩ := g0
  obtain ⟨a2, l2, rfl, h2, g2⟩ := g1
  obtain ⟨a3, l3, rfl, h3, g3⟩ := g2
  obtain ⟨a4, l4, rfl, h4, g4⟩ := g3
  obtain ⟨a5, l5, rfl, h5, g5⟩ := g4
  obtain ⟨a6, l6, rfl, h6, g6⟩ := g5
  obtain ⟨a7, l7, rfl, h7, g7⟩ := g6
  cases g7
  obtain ⟨n1, rfl, k1⟩ := is_int und3 h1
  obtain ⟨n2, rfl, k2⟩ := is_int und3 h2
  obtain ⟨b3, rfl⟩ := is_bool und4 h3
  obtain ⟨b4, rfl⟩ := is_bool und4 h4
  obtain ⟨b5, rfl⟩ := is_bool und4 h5
  obtain ⟨b6, rfl⟩ := is_bool und4 h6
  obtain ⟨b7, rfl⟩ := is_bool und4 h7
  exact ⟨⟨n1, n2, b3, b4, b5, b6, b7⟩, rfl, inK_i64 k1, inK_i64 k2⟩

theorem isL1 {P : Program} {d : Nat} {t : TypeId} {l : List SV} (h : IsL P d [t] l) : ∃ a, l = [a] ∧ Is P d t a := by
  obtain ⟨a, r, rfl, h1, h2⟩ := h
  cases h2
  exact ⟨a, rfl, h1⟩
theorem isL2 {P : Program} {d : Nat} {t t' : TypeId} {l : List SV} (h : IsL P d [t, t'] l) : ∃ a b, l = [a, b] ∧ Is P d t a ∧ Is P d t' b := by
  obtain ⟨a, r, rfl, h1, h2⟩ := h
  obtain ⟨b, rfl, h3⟩ := isL1 h2
  exact ⟨a, b, rfl, h1, h3⟩
theorem isL3 {P : Program} {d : Nat} {t t' t'' : TypeId} {l : List SV} (h : IsL P d [t, t', t''] l) : ∃ a b c, l = [a, b, c] ∧ Is P d t a ∧ Is P d t' b ∧ Is P d t'' c := by
  obtain ⟨a, r, rfl, h1, h2⟩ := h
  obtain ⟨b, c, rfl, h3, h4⟩ := isL2 h2
  exact ⟨a, b, c, rfl, h1, h3, h4⟩

theorem w4 (svs : List SV) (h : IsL Try.prog 3 [23, 5] svs) : bodyK (E0 g4 noLoop) (callN (E0 g4 noLoop) 1) 4 Try.f4 svs [] (fun x _ => isTrue x) := by
  obtain ⟨a, b, rfl, h1, h2⟩ := isL2 h
  obtain ⟨r, rfl, hr⟩ := is_ras h1
  obtain ⟨v, rfl, hv⟩ := is_int und5 h2
  have hv := inK_u8 hv
  rw [t4]
  refine ⟨trivial, trivial, ⟨hv⟩, ⟨hv⟩, ⟨hv⟩, ⟨hv⟩, ?_⟩
  simp

theorem w5 (svs : List SV) (h : IsL Try.prog 3 [23] svs) : bodyK (E0 g4 noLoop) (callN (E0 g4 noLoop) 1) 5 Try.f5 svs [] (fun x _ => isTrue x) := by
  obtain ⟨a, rfl, h1⟩ := isL1 h
  obtain ⟨r, rfl, hr⟩ := is_ras h1
  rw [t5]
  refine ⟨trivial, trivial, trivial, trivial, trivial, trivial, ?_⟩
  simp
end Go.Sx

namespace Go.Sx
open Go.Proofs
set_option linter.unusedVariables false
set_option linter.unusedSimpArgs false

theorem byte_all {p : Int → Bool} (h : (List.range 256).all (fun k => p (k : Nat)) = true) {v : Int} (hv : u8 v) : p v = true := by
  obtain ⟨h1, h2⟩ := hv
  have e : v = (v.toNat : Int) := by omega
  rw [List.all_eq_true] at h
  rw [e]
  exact h v.toNat (by simp; omega)

theorem andn128 {v : Int} (h : u8 v) : u8 (iandn .u8 v 128) ∧ decide (128 ≤ iandn .u8 v 128) = false := by
  have := byte_all (p := fun v => decide (0 ≤ iandn .u8 v 128) && decide (iandn .u8 v 128 ≤ 255) && !decide (128 ≤ iandn .u8 v 128)) (by decide +kernel) h
  simp at this
  exact ⟨⟨this.1.1, this.1.2⟩, by simp; exact this.2⟩
theorem or128 {v : Int} (h : u8 v) : u8 (ior .u8 v 128) ∧ decide (128 ≤ ior .u8 v 128) = true := by
  have := byte_all (p := fun v => decide (0 ≤ ior .u8 v 128) && decide (ior .u8 v 128 ≤ 255) && decide (128 ≤ ior .u8 v 128)) (by decide +kernel) h
  simp at this
  exact ⟨⟨this.1.1, this.1.2⟩, by simp; exact this.2⟩
theorem or8 {v : Int} (h : u8 v) : u8 (ior .u8 v 8) ∧ (iand .u8 (ior .u8 v 8) 24 != 0) = true := by
  have := byte_all (p := fun v => decide (0 ≤ ior .u8 v 8) && decide (ior .u8 v 8 ≤ 255) && (iand .u8 (ior .u8 v 8) 24 != 0)) (by decide +kernel) h
  simp at this
  exact ⟨⟨this.1.1, this.1.2⟩, by simp; exact this.2⟩
theorem or16 {v : Int} (h : u8 v) : u8 (ior .u8 v 16) ∧ (iand .u8 (ior .u8 v 16) 24 != 0) = true := by
  have := byte_all (p := fun v => decide (0 ≤ ior .u8 v 16) && decide (ior .u8 v 16 ≤ 255) && (iand .u8 (ior .u8 v 16) 24 != 0)) (by decide +kernel) h
  simp at this
  exact ⟨⟨this.1.1, this.1.2⟩, by simp; exact this.2⟩
theorem andn24 {v : Int} (h : u8 v) : u8 (iandn .u8 v 24) ∧ (iand .u8 (iandn .u8 v 24) 24 != 0) = false := by
  have := byte_all (p := fun v => decide (0 ≤ iandn .u8 v 24) && decide (iandn .u8 v 24 ≤ 255) && !(iand .u8 (iandn .u8 v 24) 24 != 0)) (by decide +kernel) h
  simp at this
  exact ⟨⟨this.1.1, this.1.2⟩, by simp; exact this.2⟩

theorem near_range (r : Ras) : 0 ≤ r.nearR.line ∧ r.nearR.line ≤ 261 ∧ 0 ≤ r.nearR.dot ∧ r.nearR.dot ≤ 340 := by
  have h1 := i64_spf r.line 0 261 (by omega) (by omega)
  have h2 := i64_spf r.dot 0 340 (by omega) (by omega)
  exact ⟨h1.1, h1.2, h2.1, h2.2⟩

theorem valid_tog (r : Ras) (o n w : Bool) : (Ras.mk 250 r.nearR.dot o true n w false).valid = true := by
  have := near_range r
  rw [valid_iff]; simp [Ras.pl]; omega

theorem w3 (svs : List SV) (h : IsL Try.prog 3 [23, 5, 5] svs) : bodyK (E0 g4 noLoop) (callN (E0 g4 noLoop) 1) 3 Try.f3 svs [] (fun x _ => isTrue x) := by
  obtain ⟨a, b, c, rfl, h1, h2, h3⟩ := isL3 h
  obtain ⟨r, rfl, hr⟩ := is_ras h1
  obtain ⟨v, rfl, hv⟩ := is_int und5 h2
  obtain ⟨w, rfl, hw⟩ := is_int und5 h3
  have hv := inK_u8 hv
  have hw := inK_u8 hw
  obtain ⟨c1, d1⟩ := andn128 hv
  obtain ⟨c2, d2⟩ := or128 hv
  obtain ⟨c3, d3⟩ := or8 hw
  obtain ⟨c4, d4⟩ := or16 hw
  obtain ⟨c5, d5⟩ := andn24 hw
  rw [t3]
  simp only [Ras.up, Ras.ctrl, Ras.mask, valid_tog, if_true, d1, d2, d3, d4, d5]
  refine ⟨⟨hr⟩, ⟨c1⟩, ⟨c2⟩, ?_⟩
  simp [br, c1, c2, c3, c4, c5]
  exact ⟨trivial⟩
end Go.Sx

namespace Go.Sx
set_option linter.unusedVariables false
set_option linter.unusedSimpArgs false

def Ras.its : Nat → Ras → Ras
  | 0, r => r
  | n + 1, r => Ras.its n r.step
def Ras.cks : Nat → Ras → Int
  | 0, r => 0
  | n + 1, r => nat01 r.clock + Ras.cks n r.step

theorem its_add : ∀ (m n : Nat) (r : Ras), Ras.its (m + n) r = Ras.its n (Ras.its m r)
  | 0, n, r => by simp [Ras.its]
  | m + 1, n, r => by rw [Nat.succ_add]; simp only [Ras.its]; exact its_add m n _
theorem cks_add : ∀ (m n : Nat) (r : Ras), Ras.cks (m + n) r = Ras.cks m r + Ras.cks n (Ras.its m r)
  | 0, n, r => by simp [Ras.its, Ras.cks]
  | m + 1, n, r => by rw [Nat.succ_add]; simp only [Ras.its, Ras.cks]; rw [cks_add m n]; omega
theorem its_one (r : Ras) : Ras.its 1 r = r.step := rfl
theorem cks_one (r : Ras) : Ras.cks 1 r = nat01 r.clock := by simp [Ras.cks]
theorem its_valid : ∀ (n : Nat) {r : Ras}, r.valid = true → (Ras.its n r).valid = true
  | 0, r, h => h
  | n + 1, r, h => its_valid n (step_valid h)
theorem cks_le : ∀ (n : Nat) (r : Ras), 0 ≤ Ras.cks n r ∧ Ras.cks n r ≤ n
  | 0, r => by simp [Ras.cks]
  | n + 1, r => by
    have := cks_le n r.step
    have := nat01_le r.clock
    simp only [Ras.cks]; omega

/-- How many scanline clocks lie at the places up to p. -/
def struck (p : Int) : Int := if p < 260 then 0 else (if (p - 260) / 341 + 1 < 240 then (p - 260) / 341 + 1 else 240) + (if 89261 ≤ p then 1 else 0)

theorem struck_clk (p : Int) (h : 0 ≤ p) (h2 : p ≤ 89341) : struck (p + 1) = struck p + nat01 (clk (p + 1)) := by
  have e : nat01 (clk (p + 1)) = if (p + 1) % 341 = 260 ∧ (p + 1 < 81840 ∨ 89001 ≤ p + 1) then 1 else 0 := by
    unfold nat01 clk; simp
  rw [e]
  unfold struck
  repeat' split
  all_goals omega

/-- The raster at place q of the same frame, q not ahead of where it is. -/
def Ras.jump (r : Ras) (q : Int) : Ras :=
  { line := q / 341, dot := q % 341, odd := r.odd
    vbl := if r.pl < 89002 ∧ 89002 ≤ q then false else if r.pl < 82182 ∧ 82182 ≤ q then !r.hold else r.vbl
    nmi := r.nmi, draw := r.draw
    hold := if r.pl < 82182 ∧ 82182 ≤ q then false else r.hold }

theorem pl_at (l d p : Int) (h : l = p / 341) (h2 : d = p % 341) : l * 341 + d = p := by omega

theorem jump_pl (r : Ras) (q : Int) : (r.jump q).pl = q := by
  unfold Ras.pl Ras.jump; simp only; omega

theorem jump_self {r : Ras} (h : r.valid = true) : r.jump r.pl = r := by
  rw [valid_iff] at h
  have e : r.line = r.pl / 341 ∧ r.dot = r.pl % 341 := by unfold Ras.pl at *; omega
  unfold Ras.jump
  rw [if_neg (by omega), if_neg (by omega), if_neg (by omega), ← e.1, ← e.2]

theorem jump_step {r : Ras} (h : r.valid = true) {q : Int} (hq : r.pl ≤ q) (h2 : q ≤ 89339 ∨ (q = 89340 ∧ ¬ (r.odd = true ∧ r.draw = true))) :
    (r.jump q).step = r.jump (q + 1) ∧ (r.jump q).clock = (r.draw && clk (q + 1)) := by
  have e : nextP (r.jump q) = q + 1 := by
    unfold nextP
    rw [jump_pl]
    rw [if_neg]
    intro hc
    rcases hc with hc | hc
    · omega
    · rcases h2 with h2 | h2
      · omega
      · exact h2.2 hc.2
  unfold Ras.step Ras.clock
  rw [e]
  refine ⟨?_, rfl⟩
  rw [valid_iff] at h
  have hp : 0 ≤ r.pl := by unfold Ras.pl; omega
  obtain ⟨l, d, o, v, n, w, hh⟩ := r
  unfold Ras.goOn Ras.jump
  generalize Ras.pl _ = p at *
  simp only at *
  have h0 : ¬ (q + 1 = 0) := by omega
  rw [if_neg h0]
  congr 1
  · by_cases a : q + 1 = 82182
    · rw [if_pos a]
      have b1 : p < 82182 ∧ 82182 ≤ q + 1 := by omega
      have b2 : ¬ (p < 82182 ∧ 82182 ≤ q) := by omega
      have b3 : ¬ (p < 89002 ∧ 89002 ≤ q) := by omega
      have b4 : ¬ (p < 89002 ∧ 89002 ≤ q + 1) := by omega
      rw [if_neg b3, if_neg b2, if_neg b2, if_neg b4, if_pos b1]
      cases v
      · rfl
      · have := h.2.2.2.2.1 rfl; omega
    · rw [if_neg a]
      by_cases c : q + 1 = 89002
      · rw [if_pos c, if_pos (by omega)]
      · rw [if_neg c]
        have k1 : (p < 89002 ∧ 89002 ≤ q) ↔ (p < 89002 ∧ 89002 ≤ q + 1) := by omega
        have k2 : (p < 82182 ∧ 82182 ≤ q) ↔ (p < 82182 ∧ 82182 ≤ q + 1) := by omega
        simp only [k1, k2]
  · by_cases a : q + 1 = 82182
    · rw [if_pos a, if_pos (by omega)]
    · rw [if_neg a]
      have k2 : (p < 82182 ∧ 82182 ≤ q) ↔ (p < 82182 ∧ 82182 ≤ q + 1) := by omega
      simp only [k2]

def inFrame (r : Ras) (q : Int) : Prop := r.pl ≤ q ∧ (q ≤ 89340 ∨ (q = 89341 ∧ (r.pl = 89341 ∨ ¬ (r.odd = true ∧ r.draw = true))))

theorem its_succ (n : Nat) (r : Ras) : Ras.its (n + 1) r = (Ras.its n r).step := by rw [its_add]; rfl
theorem cks_succ (n : Nat) (r : Ras) : Ras.cks (n + 1) r = Ras.cks n r + nat01 (Ras.its n r).clock := by rw [cks_add, cks_one]

theorem its_jump {r : Ras} (h : r.valid = true) : ∀ (n : Nat), inFrame r (r.pl + n) → Ras.its n r = r.jump (r.pl + n) ∧ Ras.cks n r = (if r.draw = true then struck (r.pl + n) - struck r.pl else 0)
  | 0, hf => by
    have z : r.pl + ((0 : Nat) : Int) = r.pl := by omega
    rw [z]; simp only [Ras.its, Ras.cks]
    refine ⟨(jump_self h).symm, ?_⟩
    split <;> omega
  | n + 1, hf => by
    have hf0 := hf
    unfold inFrame at hf
    have hp : 0 ≤ r.pl := by rw [valid_iff] at h; unfold Ras.pl; omega
    have e : r.pl + ((n + 1 : Nat) : Int) = r.pl + n + 1 := by omega
    rw [e] at hf ⊢
    obtain ⟨i1, i2⟩ := its_jump h n (by unfold inFrame; omega)
    obtain ⟨s1, s2⟩ := jump_step h (q := r.pl + n) (by omega) (by
      rcases hf.2 with k | k
      · exact .inl (by omega)
      · refine .inr ⟨by omega, fun hc => ?_⟩
        rcases k.2 with k2 | k2
        · omega
        · exact k2 hc)
    rw [its_succ, cks_succ, i1, i2, s1, s2]
    refine ⟨rfl, ?_⟩
    cases hd : r.draw
    · simp [nat01]
    · simp only [Bool.true_and, if_true]
      rw [struck_clk _ (by omega) (by omega)]; omega

end Go.Sx

namespace Go.Sx
set_option linter.unusedVariables false
set_option linter.unusedSimpArgs false

/-- The first dot of a frame. -/
def Ras.top (r : Ras) (o : Bool) : Ras := { line := 0, dot := 0, odd := o, vbl := false, nmi := r.nmi, draw := r.draw, hold := false }

/-- Dots to the next frame's first one. -/
def Ras.left (r : Ras) : Int := if r.pl ≤ 89340 ∧ r.odd = true ∧ r.draw = true then 89341 - r.pl else 89342 - r.pl

theorem left_range {r : Ras} (h : r.valid = true) : 1 ≤ r.left ∧ r.left ≤ 89342 := by
  rw [valid_iff] at h
  unfold Ras.left Ras.pl at *
  split <;> omega

theorem jump_end {r : Ras} (h : r.valid = true) {q : Int} (hq : r.pl ≤ q) (h2 : (q = 89341) ∨ (q = 89340 ∧ r.odd = true ∧ r.draw = true)) :
    (r.jump q).step = r.top (!r.odd) ∧ (r.jump q).clock = false := by
  have e : nextP (r.jump q) = 0 := by
    unfold nextP
    rw [jump_pl, if_pos]
    rcases h2 with h2 | h2
    · exact .inl h2
    · exact .inr h2
  unfold Ras.step Ras.clock
  rw [e]
  constructor
  · rw [valid_iff] at h
    unfold Ras.goOn Ras.jump Ras.top
    simp only
    have a : ¬ ((0 : Int) = 82182) := by omega
    have b : ¬ ((0 : Int) = 89002) := by omega
    rw [if_neg a, if_neg b, if_neg a]
    have v : (if r.pl < 89002 ∧ 89002 ≤ q then false else if r.pl < 82182 ∧ 82182 ≤ q then !r.hold else r.vbl) = false := by
      by_cases c : r.pl < 89002
      · rw [if_pos (by omega)]
      · rw [if_neg (by omega), if_neg (by omega)]
        cases hv : r.vbl
        · rfl
        · have := h.2.2.2.2.1 hv; omega
    have w : (if r.pl < 82182 ∧ 82182 ≤ q then false else r.hold) = false := by
      by_cases c : r.pl < 82182
      · rw [if_pos (by omega)]
      · rw [if_neg (by omega)]
        cases hv : r.hold
        · rfl
        · have := h.2.2.2.2.2 hv; omega
    rw [v, w]; rfl
  · have : clk 0 = false := by unfold clk; rfl
    rw [this]; simp

theorem struck_last : struck 89341 = 241 ∧ struck 89340 = 241 := by constructor <;> rfl

/-- To the next frame's first dot. -/
theorem its_left {r : Ras} (h : r.valid = true) : Ras.its r.left.toNat r = r.top (!r.odd) ∧ Ras.cks r.left.toNat r = if r.draw = true then 241 - struck r.pl else 0 := by
  have hl := left_range h
  have hp : 0 ≤ r.pl ∧ r.pl ≤ 89341 := by rw [valid_iff] at h; unfold Ras.pl; omega
  obtain ⟨m, hm⟩ : ∃ m : Nat, r.left.toNat = m + 1 := ⟨r.left.toNat - 1, by omega⟩
  have hq : r.pl + m = r.pl + r.left - 1 := by omega
  have hf : inFrame r (r.pl + m) := by
    unfold inFrame; rw [hq]; unfold Ras.left at *
    split
    · exact ⟨by omega, .inl (by omega)⟩
    · rename_i hc
      refine ⟨by omega, .inr ⟨by omega, ?_⟩⟩
      by_cases c : r.pl = 89341
      · exact .inl c
      · exact .inr fun k => hc ⟨by omega, k.1, k.2⟩
  obtain ⟨i1, i2⟩ := its_jump h m hf
  have hend : (r.pl + m = 89341) ∨ (r.pl + m = 89340 ∧ r.odd = true ∧ r.draw = true) := by
    rw [hq]; unfold Ras.left
    split
    · rename_i hc; exact .inr ⟨by omega, hc.2.1, hc.2.2⟩
    · exact .inl (by omega)
  obtain ⟨j1, j2⟩ := jump_end h (q := r.pl + m) (by omega) hend
  rw [hm, its_succ, cks_succ, i1, i2, j1, j2]
  refine ⟨rfl, ?_⟩
  have hs : struck (r.pl + m) = 241 := by
    rcases hend with e | e
    · rw [e]; exact struck_last.1
    · rw [e.1]; exact struck_last.2
  rw [hs]
  cases r.draw <;> simp [nat01]

theorem top_valid (r : Ras) (o : Bool) : (r.top o).valid = true := by rw [valid_iff]; simp [Ras.top]
theorem top_pl (r : Ras) (o : Bool) : (r.top o).pl = 0 := by simp [Ras.top, Ras.pl]
theorem top_top (r : Ras) (o o' : Bool) : (r.top o).top o' = r.top o' := rfl

/-- A whole frame from its first dot. -/
theorem its_frame (r : Ras) (o : Bool) : Ras.its (if o = true ∧ r.draw = true then 89341 else 89342) (r.top o) = r.top (!o) ∧ Ras.cks (if o = true ∧ r.draw = true then 89341 else 89342) (r.top o) = if r.draw = true then 241 else 0 := by
  have h := its_left (top_valid r o)
  have e : (r.top o).left.toNat = if o = true ∧ r.draw = true then 89341 else 89342 := by
    unfold Ras.left
    rw [top_pl]
    have : (r.top o).odd = o ∧ (r.top o).draw = r.draw := ⟨rfl, rfl⟩
    rw [this.1, this.2]
    by_cases c : o = true ∧ r.draw = true
    · rw [if_pos ⟨by omega, c.1, c.2⟩, if_pos c]; rfl
    · rw [if_neg (fun k => c k.2), if_neg c]; rfl
  rw [e, top_pl] at h
  have z : struck 0 = 0 := rfl
  rw [z] at h
  exact h

/-- Two frames. -/
def pair (w : Bool) : Nat := if w = true then 178683 else 178684
theorem its_pair (r : Ras) (o : Bool) : Ras.its (pair r.draw) (r.top o) = r.top o ∧ Ras.cks (pair r.draw) (r.top o) = if r.draw = true then 482 else 0 := by
  obtain ⟨a1, a2⟩ := its_frame r o
  obtain ⟨b1, b2⟩ := its_frame r (!o)
  have e : pair r.draw = (if o = true ∧ r.draw = true then 89341 else 89342) + (if (!o) = true ∧ r.draw = true then 89341 else 89342) := by
    unfold pair; cases o <;> cases r.draw <;> rfl
  rw [e, its_add, cks_add, a1, a2, b1, b2]
  refine ⟨by simp, ?_⟩
  cases r.draw <;> simp

/-- Settled: behind a frame's first dot. -/
theorem its_settled (r : Ras) (o : Bool) (m : Nat) : Ras.its (pair r.draw) (Ras.its m (r.top o)) = Ras.its m (r.top o) ∧ Ras.cks (pair r.draw) (Ras.its m (r.top o)) = if r.draw = true then 482 else 0 := by
  obtain ⟨a1, a2⟩ := its_pair r o
  constructor
  · rw [← its_add, Nat.add_comm, its_add, a1]
  · have h1 := cks_add m (pair r.draw) (r.top o)
    have h2 := cks_add (pair r.draw) m (r.top o)
    rw [Nat.add_comm, h2, a1, a2] at h1
    omega

theorem its_draw : ∀ (n : Nat) (r : Ras), (Ras.its n r).draw = r.draw ∧ (Ras.its n r).nmi = r.nmi
  | 0, r => ⟨rfl, rfl⟩
  | n + 1, r => its_draw n r.step

/-- Any number of dots from one frame's length on is settled. -/
theorem its_many {r : Ras} (h : r.valid = true) (n : Nat) (hn : 89342 ≤ n) : Ras.its (pair r.draw) (Ras.its n r) = Ras.its n r ∧ Ras.cks (pair r.draw) (Ras.its n r) = if r.draw = true then 482 else 0 := by
  have hl := left_range h
  have e : n = r.left.toNat + (n - r.left.toNat) := by omega
  rw [e, its_add, (its_left h).1]
  exact its_settled r _ _

/-- So whole pairs of frames change nothing. -/
theorem its_pairs {r : Ras} (h : r.valid = true) (n : Nat) (hn : 89342 ≤ n) : ∀ (k : Nat), Ras.its (n + k * pair r.draw) r = Ras.its n r ∧ Ras.cks (n + k * pair r.draw) r = Ras.cks n r + k * (if r.draw = true then 482 else 0)
  | 0 => by simp
  | k + 1 => by
    obtain ⟨i1, i2⟩ := its_pairs h n hn k
    have e : n + (k + 1) * pair r.draw = (n + k * pair r.draw) + pair r.draw := by rw [Nat.succ_mul]; omega
    obtain ⟨m1, m2⟩ := its_many h n hn
    rw [e, its_add, cks_add, i1, i2, m1, m2]
    refine ⟨rfl, ?_⟩
    split <;> omega
end Go.Sx

namespace Go.Sx
open Go.Proofs
set_option linter.unusedVariables false
set_option linter.unusedSimpArgs false

def onN (F : Int → SV) (l : List SV) : Option SV := match l with
  | [.i .i64 n] => some (F n)
  | _ => none
def preN (p : Int → Prop) (l : List SV) : Prop := match l with
  | [.i .i64 n] => Chk (p n)
  | _ => False
theorem onN_some {F : Int → SV} {l : List SV} {v : SV} (h : onN F l = some v) : ∃ n, l = [.i .i64 n] ∧ v = F n := by
  unfold onN at h
  split at h
  · simp at h; subst h; exact ⟨_, rfl, rfl⟩
  · simp at h

def Ras.len (r : Ras) : Int := if r.odd = true ∧ r.draw = true then 89341 else 89342
def Ras.skN (r : Ras) (n : Int) : Int := if r.draw = true then struck (r.pl + n) - struck r.pl else 0
def okPlace (p : Int) : Prop := 0 ≤ p ∧ p ≤ 1000000
def okSkip (r : Ras) (n : Int) : Prop := r.valid = true ∧ 0 ≤ n ∧ r.pl + n ≤ 89341

def cPlace : Con := .pure (preR fun r => r.valid = true) (onR fun r => .i .i64 r.pl)
def cLen : Con := .pure pre0 (onR fun r => .i .i64 r.len)
def cStruck : Con := .pure (preN okPlace) (onN fun p => .i .i64 (struck p))
def cSkip : Con := .pure (preRN okSkip) (onRN fun r n => two (r.jump (r.pl + n)).sv (.i .i64 (r.skN n)))
def g5 : List (Nat × Con) := [(41, cPlace), (47, cLen), (48, cStruck)]

theorem t41 (r : Ras) : bodyK (E0 gV noLoop) (callN (E0 gV noLoop) 1) 41 Try.f41 [r.sv] [] (fun x _ => onB (x.cl 0) (x = .i .i64 r.pl)) = (
  SV.i IntKind.i64 (IntKind.i64.wrap (IntKind.i64.wrap (r.line * 341) + r.dot)) = SV.i IntKind.i64 r.pl) := by kernel_rfl
theorem t47 (r : Ras) : bodyK (E0 gV noLoop) (callN (E0 gV noLoop) 1) 47 Try.f47 [r.sv] [] (fun x _ => onB (x.cl 0) (x = .i .i64 r.len)) = (
  br (r.odd && r.draw) (SV.i IntKind.i64 89341 = SV.i IntKind.i64 r.len) (SV.i IntKind.i64 89342 = SV.i IntKind.i64 r.len)) := by kernel_rfl
theorem t48 (p : Int) : bodyK (E0 gV noLoop) (callN (E0 gV noLoop) 1) 48 Try.f48 [.i .i64 p] [] (fun x _ => onB (x.cl 0) (x = .i .i64 (struck p))) = (
  br (decide (p < 260)) (SV.i IntKind.i64 0 = SV.i IntKind.i64 (struck p))
  (br (decide (89261 ≤ p)) (SV.i IntKind.i64 (IntKind.i64.wrap ((bif decide (240 < IntKind.i64.wrap (IntKind.i64.wrap ((IntKind.i64.wrap (p - 260)).tdiv 341) + 1)) then 240 else IntKind.i64.wrap (IntKind.i64.wrap ((IntKind.i64.wrap (p - 260)).tdiv 341) + 1)) + 1)) = SV.i IntKind.i64 (struck p))
    (SV.i IntKind.i64 (bif decide (240 < IntKind.i64.wrap (IntKind.i64.wrap ((IntKind.i64.wrap (p - 260)).tdiv 341) + 1)) then 240 else IntKind.i64.wrap (IntKind.i64.wrap ((IntKind.i64.wrap (p - 260)).tdiv 341) + 1)) = SV.i IntKind.i64 (struck p)))) := by kernel_rfl
theorem t56 (r : Ras) (n : Int) : bodyK (E0 g5 noLoop) (callN (E0 g5 noLoop) 1) 56 Try.f56 [r.sv, .i .i64 n] [] (fun x _ => onB (x.cl 0) (x = two (r.jump (r.pl + n)).sv (.i .i64 (r.skN n)))) = (
  Chk (r.valid = true) ∧
  br r.draw
    (Chk (okPlace (IntKind.i64.wrap (r.pl + n))) ∧
      Chk (okPlace r.pl) ∧
        br (decide (r.pl < 82182) && decide (82182 ≤ IntKind.i64.wrap (r.pl + n)))
          (br (decide (r.pl < 89002) && decide (89002 ≤ IntKind.i64.wrap (r.pl + n))) (two (rsv (IntKind.i64.wrap ((IntKind.i64.wrap (r.pl + n)).tdiv 341)) ((IntKind.i64.wrap (r.pl + n)).tmod 341) r.odd false r.nmi r.draw false) (SV.i IntKind.i64 (IntKind.i64.wrap (struck (IntKind.i64.wrap (r.pl + n)) - struck r.pl))) = two (r.jump (r.pl + n)).sv (SV.i IntKind.i64 (r.skN n)))
            (two (rsv (IntKind.i64.wrap ((IntKind.i64.wrap (r.pl + n)).tdiv 341)) ((IntKind.i64.wrap (r.pl + n)).tmod 341) r.odd (!r.hold) r.nmi r.draw false) (SV.i IntKind.i64 (IntKind.i64.wrap (struck (IntKind.i64.wrap (r.pl + n)) - struck r.pl))) = two (r.jump (r.pl + n)).sv (SV.i IntKind.i64 (r.skN n))))
          (br (decide (r.pl < 89002) && decide (89002 ≤ IntKind.i64.wrap (r.pl + n))) (two (rsv (IntKind.i64.wrap ((IntKind.i64.wrap (r.pl + n)).tdiv 341)) ((IntKind.i64.wrap (r.pl + n)).tmod 341) r.odd false r.nmi r.draw r.hold) (SV.i IntKind.i64 (IntKind.i64.wrap (struck (IntKind.i64.wrap (r.pl + n)) - struck r.pl))) = two (r.jump (r.pl + n)).sv (SV.i IntKind.i64 (r.skN n)))
            (two (rsv (IntKind.i64.wrap ((IntKind.i64.wrap (r.pl + n)).tdiv 341)) ((IntKind.i64.wrap (r.pl + n)).tmod 341) r.odd r.vbl r.nmi r.draw r.hold) (SV.i IntKind.i64 (IntKind.i64.wrap (struck (IntKind.i64.wrap (r.pl + n)) - struck r.pl))) = two (r.jump (r.pl + n)).sv (SV.i IntKind.i64 (r.skN n)))))
    (br (decide (r.pl < 82182) && decide (82182 ≤ IntKind.i64.wrap (r.pl + n)))
      (br (decide (r.pl < 89002) && decide (89002 ≤ IntKind.i64.wrap (r.pl + n))) (two (rsv (IntKind.i64.wrap ((IntKind.i64.wrap (r.pl + n)).tdiv 341)) ((IntKind.i64.wrap (r.pl + n)).tmod 341) r.odd false r.nmi r.draw false) (SV.i IntKind.i64 0) = two (r.jump (r.pl + n)).sv (SV.i IntKind.i64 (r.skN n)))
        (two (rsv (IntKind.i64.wrap ((IntKind.i64.wrap (r.pl + n)).tdiv 341)) ((IntKind.i64.wrap (r.pl + n)).tmod 341) r.odd (!r.hold) r.nmi r.draw false) (SV.i IntKind.i64 0) = two (r.jump (r.pl + n)).sv (SV.i IntKind.i64 (r.skN n))))
      (br (decide (r.pl < 89002) && decide (89002 ≤ IntKind.i64.wrap (r.pl + n))) (two (rsv (IntKind.i64.wrap ((IntKind.i64.wrap (r.pl + n)).tdiv 341)) ((IntKind.i64.wrap (r.pl + n)).tmod 341) r.odd false r.nmi r.draw r.hold) (SV.i IntKind.i64 0) = two (r.jump (r.pl + n)).sv (SV.i IntKind.i64 (r.skN n)))
        (two (rsv (IntKind.i64.wrap ((IntKind.i64.wrap (r.pl + n)).tdiv 341)) ((IntKind.i64.wrap (r.pl + n)).tmod 341) r.odd r.vbl r.nmi r.draw r.hold) (SV.i IntKind.i64 0) = two (r.jump (r.pl + n)).sv (SV.i IntKind.i64 (r.skN n)))))) := by kernel_rfl

end Go.Sx

namespace Go.Sx
open Go.Proofs
set_option linter.unusedVariables false
set_option linter.unusedSimpArgs false

theorem pl_range {r : Ras} (h : r.valid = true) : 0 ≤ r.pl ∧ r.pl ≤ 89341 := by
  rw [valid_iff] at h; unfold Ras.pl; omega
theorem struck_range (p : Int) : 0 ≤ struck p ∧ struck p ≤ 241 := by
  unfold struck; repeat' split
  all_goals omega

theorem p41 (r : Ras) (h : r.valid = true) : bodyK (E0 gV noLoop) (callN (E0 gV noLoop) 1) 41 Try.f41 [r.sv] [] (fun x _ => onB (x.cl 0) (x = .i .i64 r.pl)) := by
  rw [t41, pl_wrap h]
theorem p47 (r : Ras) : bodyK (E0 gV noLoop) (callN (E0 gV noLoop) 1) 47 Try.f47 [r.sv] [] (fun x _ => onB (x.cl 0) (x = .i .i64 r.len)) := by
  rw [t47]
  refine br_in (fun h => ?_) (fun h => ?_) <;> simp at h <;> simp [Ras.len, h]
  exact h
theorem p48 (p : Int) (h : okPlace p) : bodyK (E0 gV noLoop) (callN (E0 gV noLoop) 1) 48 Try.f48 [.i .i64 p] [] (fun x _ => onB (x.cl 0) (x = .i .i64 (struck p))) := by
  rw [t48]
  obtain ⟨h1, h2⟩ := h
  refine br_in (fun h => ?_) (fun h => ?_) <;> simp at h
  · congr 1; unfold struck; rw [if_pos h]
  · rw [IntWalk.i64_in (p - 260) (by omega), IntWalk.i64_quo (p - 260) 341 (by omega), IntWalk.i64_in ((p - 260) / 341 + 1) (by omega)]
    have e : (bif decide (240 < (p - 260) / 341 + 1) then 240 else (p - 260) / 341 + 1) = if (p - 260) / 341 + 1 < 240 then (p - 260) / 341 + 1 else 240 := by
      rw [cond_eq_ite]; simp only [decide_eq_true_eq]
      repeat' split
      all_goals omega
    rw [e]
    have es : struck p = (if (p - 260) / 341 + 1 < 240 then (p - 260) / 341 + 1 else 240) + (if 89261 ≤ p then 1 else 0) := by
      unfold struck; rw [if_neg (by omega)]
    have er : 0 ≤ (if (p - 260) / 341 + 1 < 240 then (p - 260) / 341 + 1 else 240) ∧ (if (p - 260) / 341 + 1 < 240 then (p - 260) / 341 + 1 else 240) ≤ 240 := by
      split <;> omega
    generalize (if (p - 260) / 341 + 1 < 240 then (p - 260) / 341 + 1 else 240) = c at *
    rw [es]
    refine br_in (fun h3 => ?_) (fun h3 => ?_) <;> simp at h3 <;> congr 1
    · rw [if_pos h3, IntWalk.i64_in _ (by omega)]
    · rw [if_neg (by omega)]; omega
theorem p56 (r : Ras) (n : Int) (h : okSkip r n) : bodyK (E0 g5 noLoop) (callN (E0 g5 noLoop) 1) 56 Try.f56 [r.sv, .i .i64 n] [] (fun x _ => onB (x.cl 0) (x = two (r.jump (r.pl + n)).sv (.i .i64 (r.skN n)))) := by
  obtain ⟨hv, h1, h2⟩ := h
  have hp := pl_range hv
  have s1 := struck_range (r.pl + n)
  have s2 := struck_range r.pl
  rw [t56, IntWalk.i64_in (r.pl + n) (by omega), IntWalk.i64_quo (r.pl + n) 341 (by omega), IntWalk.rem_in (r.pl + n) 341 (by omega), IntWalk.i64_in (struck (r.pl + n) - struck r.pl) (by omega)]
  refine ⟨⟨hv⟩, ?_⟩
  refine br_in (fun hd => ⟨⟨by unfold okPlace; omega⟩, ⟨by unfold okPlace; omega⟩, ?_⟩) (fun hd => ?_) <;>
    (refine br_in (fun a => br_in (fun b => ?_) (fun b => ?_)) (fun a => br_in (fun b => ?_) (fun b => ?_)) <;>
      simp only [Bool.and_eq_true, decide_eq_true_eq, Bool.and_eq_false_iff, decide_eq_false_iff_not] at a b <;>
      simp only [rsv, Ras.sv, Ras.jump, Ras.skN, hd, if_true, Bool.false_eq_true, if_false] <;>
      (have a' : (r.pl < 82182 ∧ 82182 ≤ r.pl + n) = True ∨ (r.pl < 82182 ∧ 82182 ≤ r.pl + n) = False := by
        by_cases c : (r.pl < 82182 ∧ 82182 ≤ r.pl + n)
        · exact .inl (eq_true c)
        · exact .inr (eq_false c)
       have b' : (r.pl < 89002 ∧ 89002 ≤ r.pl + n) = True ∨ (r.pl < 89002 ∧ 89002 ≤ r.pl + n) = False := by
        by_cases c : (r.pl < 89002 ∧ 89002 ≤ r.pl + n)
        · exact .inl (eq_true c)
        · exact .inr (eq_false c)
       rcases a' with a' | a' <;> rcases b' with b' | b' <;> simp only [a', b', if_true, if_false] <;> first
        | rfl
        | (exfalso; have a2 := of_eq_true a'; omega)
        | (exfalso; have a2 := of_eq_false a'; omega)
        | (exfalso; have b2 := of_eq_true b'; omega)
        | (exfalso; have b2 := of_eq_false b'; omega)))

theorem con41 : ConOK (E0 gV noLoop) 41 cPlace := conR gV_ok (noLoops _) 1 Try.func41 fun r h => p41 r (preR_some (p := fun r => r.valid = true) h)
theorem con47 : ConOK (E0 gV noLoop) 47 cLen := conR gV_ok (noLoops _) 1 Try.func47 fun r _ => p47 r
theorem con48 : ConOK (E0 gV noLoop) 48 cStruck := by
  refine con_pure (E0_ok _ _) gV_ok (noLoops _) 1 Try.func48 fun args v hv hp => ?_
  obtain ⟨n, rfl, rfl⟩ := onN_some hv
  exact p48 n (Chk.ok (p := okPlace n) hp)
theorem g5_ok : GamOK (E0 g5 noLoop) := gam_ok rfl ⟨con41.of, con47.of, con48.of, trivial⟩
theorem con56 : ConOK (E0 g5 noLoop) 56 cSkip := conRN g5_ok (noLoops _) 1 Try.func56 fun r n h => p56 r n h
end Go.Sx

namespace Go.Sx
open Go.Proofs
set_option linter.unusedVariables false
set_option linter.unusedSimpArgs false

def g6 : List (Nat × Con) := [(56, cSkip), (41, cPlace), (47, cLen), (23, cDot)]
def st50 (r q : Ras) (n z c : Int) : St := ⟨[(1, .i .i64 n), (2, .ptr 0 []), (4, .ptr 1 []), (5, .i .i64 z), (6, .i .i64 c)], [r.sv, q.sv]⟩
def keep50 : List Tmp := [1, 2, 4, 5, 6]
/-- One round, then N; an end, then X. -/
def oneK (keep : List Tmp) (m : Nat) (N : St → Prop) (X : Kont) : Kont := fun e st => match normSt keep m st with
  | some s => (match e with
    | .normal => N s
    | e => X e s)
  | none => False

theorem tl50 (r q : Ras) (n z c : Int) (N : St → Prop) (X : Kont) : (execC (E0 g6 noLoop) (callN (E0 g6 noLoop) 1) 50 Try.f50.ntmps (codeL Try.f50 2) (st50 r q n z c) (oneK keep50 2 N X)) = (
  br (decide (0 < n))
  (True ∧
    Chk (r.valid = true) ∧
      br (decide (IntKind.i64.wrap (r.len - r.pl) ≤ 0))
        (Chk (r.valid = true) ∧
          br (decide (n < IntKind.i64.wrap (89342 - r.pl))) (Chk (okSkip r n) ∧ X Exit.ret (St.mk [(1, SV.i IntKind.i64 n), (2, SV.ptr 0 []), (4, SV.ptr 1 []), (5, SV.i IntKind.i64 (IntKind.i64.wrap (c + r.skN n))), (6, SV.i IntKind.i64 c)] [r.sv, (r.jump (r.pl + n)).sv]))
            (Chk (okSkip r (IntKind.i64.wrap (IntKind.i64.wrap (89342 - r.pl) - 1))) ∧
              True ∧
                br (r.jump (r.pl + IntKind.i64.wrap (IntKind.i64.wrap (89342 - r.pl) - 1))).dotC
                  (N (St.mk [(1, SV.i IntKind.i64 (IntKind.i64.wrap (n - IntKind.i64.wrap (89342 - r.pl)))), (2, SV.ptr 0 []), (4, SV.ptr 1 []), (5, SV.i IntKind.i64 z), (6, SV.i IntKind.i64 (IntKind.i64.wrap (IntKind.i64.wrap (c + r.skN (IntKind.i64.wrap (IntKind.i64.wrap (89342 - r.pl) - 1))) + 1)))] [(r.jump (r.pl + IntKind.i64.wrap (IntKind.i64.wrap (89342 - r.pl) - 1))).dotR.sv, q.sv]))
                  (N (St.mk [(1, SV.i IntKind.i64 (IntKind.i64.wrap (n - IntKind.i64.wrap (89342 - r.pl)))), (2, SV.ptr 0 []), (4, SV.ptr 1 []), (5, SV.i IntKind.i64 z), (6, SV.i IntKind.i64 (IntKind.i64.wrap (c + r.skN (IntKind.i64.wrap (IntKind.i64.wrap (89342 - r.pl) - 1)))))] [(r.jump (r.pl + IntKind.i64.wrap (IntKind.i64.wrap (89342 - r.pl) - 1))).dotR.sv, q.sv]))))
        (br (decide (n < IntKind.i64.wrap (r.len - r.pl))) (Chk (okSkip r n) ∧ X Exit.ret (St.mk [(1, SV.i IntKind.i64 n), (2, SV.ptr 0 []), (4, SV.ptr 1 []), (5, SV.i IntKind.i64 (IntKind.i64.wrap (c + r.skN n))), (6, SV.i IntKind.i64 c)] [r.sv, (r.jump (r.pl + n)).sv]))
          (Chk (okSkip r (IntKind.i64.wrap (IntKind.i64.wrap (r.len - r.pl) - 1))) ∧
            True ∧
              br (r.jump (r.pl + IntKind.i64.wrap (IntKind.i64.wrap (r.len - r.pl) - 1))).dotC
                (N (St.mk [(1, SV.i IntKind.i64 (IntKind.i64.wrap (n - IntKind.i64.wrap (r.len - r.pl)))), (2, SV.ptr 0 []), (4, SV.ptr 1 []), (5, SV.i IntKind.i64 z), (6, SV.i IntKind.i64 (IntKind.i64.wrap (IntKind.i64.wrap (c + r.skN (IntKind.i64.wrap (IntKind.i64.wrap (r.len - r.pl) - 1))) + 1)))] [(r.jump (r.pl + IntKind.i64.wrap (IntKind.i64.wrap (r.len - r.pl) - 1))).dotR.sv, q.sv]))
                (N (St.mk [(1, SV.i IntKind.i64 (IntKind.i64.wrap (n - IntKind.i64.wrap (r.len - r.pl)))), (2, SV.ptr 0 []), (4, SV.ptr 1 []), (5, SV.i IntKind.i64 z), (6, SV.i IntKind.i64 (IntKind.i64.wrap (c + r.skN (IntKind.i64.wrap (IntKind.i64.wrap (r.len - r.pl) - 1)))))] [(r.jump (r.pl + IntKind.i64.wrap (IntKind.i64.wrap (r.len - r.pl) - 1))).dotR.sv, q.sv])))))
  (X (Exit.exit 0) (St.mk [(1, SV.i IntKind.i64 n), (2, SV.ptr 0 []), (4, SV.ptr 1 []), (5, SV.i IntKind.i64 z), (6, SV.i IntKind.i64 c)] [r.sv, q.sv]))) := by kernel_rfl

end Go.Sx

namespace Go.Sx
open Go.Proofs
set_option linter.unusedVariables false
set_option linter.unusedSimpArgs false

theorem roundsN_succ (keep : List Tmp) (m : Nat) (body : St → Kont → Prop) (K : Kont) (n : Nat) (s : St) :
    roundsN keep m body K (n + 1) s = body s (oneK keep m (roundsN keep m body K n) K) := by
  simp only [roundsN]
  congr 1

theorem inFrame_left {r : Ras} (h : r.valid = true) {n : Int} (h0 : 0 ≤ n) (h1 : n < r.left) : inFrame r (r.pl + n) := by
  have hp : 0 ≤ r.pl ∧ r.pl ≤ 89341 := pl_range h
  unfold inFrame
  unfold Ras.left at h1
  split at h1
  · exact ⟨by omega, .inl (by omega)⟩
  · rename_i hc
    refine ⟨by omega, ?_⟩
    by_cases c : r.pl + n = 89341
    · refine .inr ⟨c, ?_⟩
      by_cases d : r.pl = 89341
      · exact .inl d
      · exact .inr fun k => hc ⟨by omega, k.1, k.2⟩
    · exact .inl (by omega)

/-- What a stretch within a frame does. -/
theorem its_skip {r : Ras} (h : r.valid = true) {n : Int} (h0 : 0 ≤ n) (h1 : n < r.left) : Ras.its n.toNat r = r.jump (r.pl + n) ∧ Ras.cks n.toNat r = r.skN n ∧ okSkip r n := by
  have hf := inFrame_left h h0 h1
  have hl := left_range h
  have e : ((n.toNat : Nat) : Int) = n := by omega
  have := its_jump h n.toNat (by rw [e]; exact hf)
  rw [e] at this
  refine ⟨this.1, this.2, h, h0, ?_⟩
  unfold inFrame at hf
  omega

/-- .. and its last dot. -/
theorem its_turn {r : Ras} (h : r.valid = true) : (r.jump (r.pl + (r.left - 1))).dotC = false ∧ (r.jump (r.pl + (r.left - 1))).dotR = Ras.its r.left.toNat r ∧ Ras.cks r.left.toNat r = r.skN (r.left - 1) := by
  have hl := left_range h
  obtain ⟨s1, s2, s3⟩ := its_skip h (n := r.left - 1) (by omega) (by omega)
  have hv : (r.jump (r.pl + (r.left - 1))).valid = true := by rw [← s1]; exact its_valid _ h
  have hend : (r.pl + (r.left - 1) = 89341) ∨ (r.pl + (r.left - 1) = 89340 ∧ r.odd = true ∧ r.draw = true) := by
    unfold Ras.left
    split
    · rename_i hc; exact .inr ⟨by omega, hc.2.1, hc.2.2⟩
    · exact .inl (by omega)
  obtain ⟨j1, j2⟩ := jump_end h (q := r.pl + (r.left - 1)) (by omega) hend
  have e : r.left.toNat = (r.left - 1).toNat + 1 := by omega
  refine ⟨by unfold Ras.dotC; rw [j2]; simp, ?_, ?_⟩
  · unfold Ras.dotR; rw [if_pos hv, e, its_succ, s1]
  · rw [e, cks_succ, s1, j2, s2]; simp [nat01]

theorem left_len {r : Ras} (h : r.valid = true) : (r.len - r.pl ≤ 0 → r.left = 89342 - r.pl) ∧ (¬ (r.len - r.pl ≤ 0) → r.left = r.len - r.pl) := by
  have hp := pl_range h
  unfold Ras.left Ras.len
  by_cases c : r.odd = true ∧ r.draw = true
  · rw [if_pos c]
    by_cases d : r.pl ≤ 89340
    · rw [if_pos ⟨d, c.1, c.2⟩]; exact ⟨fun k => by omega, fun k => by omega⟩
    · rw [if_neg (fun k => d k.1)]; exact ⟨fun k => by omega, fun k => by omega⟩
  · rw [if_neg c, if_neg (fun k => c k.2)]; exact ⟨fun k => by omega, fun k => by omega⟩

def body50 : St → Kont → Prop := execC (E0 g6 noLoop) (callN (E0 g6 noLoop) 1) 50 Try.f50.ntmps (codeL Try.f50 2)

/-- One round. -/
theorem round50 (r q : Ras) (n z c : Int) (N : St → Prop) (X : Kont) (hv : r.valid = true) (h0 : 0 ≤ n) (h1 : n ≤ 1000000000) (c0 : 0 ≤ c) (c1 : c + n ≤ 2000000000)
    (hx : n = 0 → X (Exit.exit 0) (st50 r q n z c)) (hr : 0 < n → n < r.left → X Exit.ret (st50 r (Ras.its n.toNat r) n (c + Ras.cks n.toNat r) c))
    (hn : 0 < n → r.left ≤ n → N (st50 (Ras.its r.left.toNat r) q (n - r.left) z (c + Ras.cks r.left.toNat r))) : body50 (st50 r q n z c) (oneK keep50 2 N X) := by
  unfold body50
  rw [tl50]
  have hp := pl_range hv
  have hl := left_range hv
  obtain ⟨l1, l2⟩ := left_len hv
  obtain ⟨u1, u2, u3⟩ := its_turn hv
  have hlen : 89341 ≤ r.len ∧ r.len ≤ 89342 := by unfold Ras.len; split <;> omega
  have hck := cks_le r.left.toNat r
  rw [IntWalk.i64_in (r.len - r.pl) (by omega), IntWalk.i64_in (89342 - r.pl) (by omega)]
  refine br_in (fun a => ?_) (fun a => ?_) <;> simp at a
  · refine ⟨trivial, ⟨hv⟩, ?_⟩
    have gen : ∀ L : Int, L = r.left →
        br (decide (n < L)) (Chk (okSkip r n) ∧ X Exit.ret (st50 r (r.jump (r.pl + n)) n (IntKind.i64.wrap (c + r.skN n)) c))
          (Chk (okSkip r (IntKind.i64.wrap (L - 1))) ∧ True ∧ br (r.jump (r.pl + IntKind.i64.wrap (L - 1))).dotC
            (N (st50 (r.jump (r.pl + IntKind.i64.wrap (L - 1))).dotR q (IntKind.i64.wrap (n - L)) z (IntKind.i64.wrap (IntKind.i64.wrap (c + r.skN (IntKind.i64.wrap (L - 1))) + 1))))
            (N (st50 (r.jump (r.pl + IntKind.i64.wrap (L - 1))).dotR q (IntKind.i64.wrap (n - L)) z (IntKind.i64.wrap (c + r.skN (IntKind.i64.wrap (L - 1))))))) := by
      rintro L rfl
      refine br_in (fun b => ?_) (fun b => ?_) <;> simp at b
      · obtain ⟨s1, s2, s3⟩ := its_skip hv h0 b
        have hc := cks_le n.toNat r
        have := hr a b
        rw [s1, s2] at this
        rw [IntWalk.i64_in (c + r.skN n) (by omega)]
        exact ⟨⟨s3⟩, this⟩
      · rw [IntWalk.i64_in (r.left - 1) (by omega), IntWalk.i64_in (n - r.left) (by omega)]
        obtain ⟨_, _, s3⟩ := its_skip hv (n := r.left - 1) (by omega) (by omega)
        refine ⟨⟨s3⟩, trivial, ?_⟩
        rw [u1, u2, ← u3, IntWalk.i64_in (c + Ras.cks r.left.toNat r) (by omega)]
        exact hn a b
    refine br_in (fun b => ?_) (fun b => ?_) <;> simp at b
    · exact ⟨⟨hv⟩, gen _ (l1 (by omega)).symm⟩
    · exact gen _ (l2 (by omega)).symm
  · exact hx (by omega)

theorem loop50 (K : Kont) : ∀ (j : Nat) (r q : Ras) (n z c : Int), n < j → r.valid = true → 0 ≤ n → n ≤ 1000000000 → 0 ≤ c → c + n ≤ 2000000000 →
    K (Exit.exit 0) (st50 (Ras.its n.toNat r) q 0 z (c + Ras.cks n.toNat r)) → (∀ r' n' c', K Exit.ret (st50 r' (Ras.its n.toNat r) n' (c + Ras.cks n.toNat r) c')) →
    ∃ m, roundsN keep50 2 body50 K m (st50 r q n z c)
  | 0, r, q, n, z, c, hj, hv, h0, h1, c0, c1, k1, k2 => by omega
  | j + 1, r, q, n, z, c, hj, hv, h0, h1, c0, c1, k1, k2 => by
    have hl := left_range hv
    by_cases a : 0 < n ∧ r.left ≤ n
    · have e : n.toNat = r.left.toNat + (n - r.left).toNat := by omega
      have hck := cks_le r.left.toNat r
      rw [e, its_add, cks_add, ← Int.add_assoc] at k1
      have k2' : ∀ r' n' c', K Exit.ret (st50 r' (Ras.its (n - r.left).toNat (Ras.its r.left.toNat r)) n' (c + Ras.cks r.left.toNat r + Ras.cks (n - r.left).toNat (Ras.its r.left.toNat r)) c') := by
        intro r' n' c'
        have := k2 r' n' c'
        rw [e, its_add, cks_add, ← Int.add_assoc] at this
        exact this
      obtain ⟨m, hm⟩ := loop50 K j (Ras.its r.left.toNat r) q (n - r.left) z (c + Ras.cks r.left.toNat r) (by omega) (its_valid _ hv) (by omega) (by omega) (by omega) (by omega) k1 k2'
      refine ⟨m + 1, ?_⟩
      rw [roundsN_succ]
      exact round50 r q n z c _ K hv h0 h1 c0 c1 (fun k => by omega) (fun _ k => by omega) (fun _ _ => hm)
    · refine ⟨1, ?_⟩
      rw [roundsN_succ]
      refine round50 r q n z c _ K hv h0 h1 c0 c1 (fun k => ?_) (fun _ k => k2 r n c) (fun k1 k2 => (a ⟨k1, k2⟩).elim)
      subst k
      simpa [Ras.its, Ras.cks] using k1

def okRuns (r : Ras) (n c : Int) : Prop := r.valid = true ∧ 0 ≤ n ∧ n ≤ 1000000000 ∧ 0 ≤ c ∧ c + n ≤ 2000000000
/-- The loop's contract. -/
def pt50 (s : St) (K : Kont) : Prop := match s with
  | ⟨[(1, .i .i64 n), (2, .ptr 0 []), (4, .ptr 1 []), (5, .i .i64 z), (6, .i .i64 c)], [x, y]⟩ => (match rasOf x, rasOf y with
    | some r, some q => Chk (okRuns r n c) ∧ K (Exit.exit 0) (st50 (Ras.its n.toNat r) q 0 z (c + Ras.cks n.toNat r)) ∧ ∀ (r' : Ras) (n' c' : Int), K Exit.ret (st50 r' (Ras.its n.toNat r) n' (c + Ras.cks n.toNat r) c')
    | _, _ => False)
  | _ => False
def l50 : LCon := ⟨keep50, pt50⟩
def L50 : List (Nat × Nat × LCon) := [(50, 2, l50)]

theorem g6_ok : GamOK (E0 g6 noLoop) := gam_ok rfl ⟨con56.of, con41.of, con47.of, con23.of, trivial⟩

theorem LoopSem.of {E E' : Env} (hP : E.P = E'.P) (hg : E.glob = E'.glob) {nt : Nat} {c : Code} {l : LCon} (h : LoopSem E nt c l) : LoopSem E' nt c l := by
  cases E; cases E'; subst hP; subst hg; exact h

/-- A loop's contract out of its rounds, for the raster's tables. -/
theorem loop_in {gam gam' : List (Nat × Con)} {loop : List (Nat × Nat × LCon)} (hg : GamOK (E0 gam noLoop)) (k : Nat) {f id : Nat} {fn : Func} (hfn : Try.prog.funcs[f]? = some fn) (ho : oneL fn id = true) {l : LCon}
    (h : ∀ s K, l.pt s K → ∃ n, roundsN l.keep s.mem.length (execC (E0 gam noLoop) (callN (E0 gam noLoop) k) f fn.ntmps (codeL fn id)) K n s) : LoopIn (E0 gam' loop) (f, id, l) := by
  refine ⟨fn, hfn, ho, LoopSem.of (E := E0 gam noLoop) rfl rfl (loop_sem (execC_sound (E0_ok _ _) hg (callN_sound (E0_ok _ _) hg (noLoops _) k) _ ?_) h)⟩
  intro x hx l e
  simp [E0, noLoop, lookL2] at e

theorem in50 (gam : List (Nat × Con)) (loop : List (Nat × Nat × LCon)) : LoopIn (E0 gam loop) (50, 2, l50) := by
  refine loop_in g6_ok 1 Try.func50 (by kernel_rfl) fun s K hp => ?_
  change pt50 s K at hp
  unfold pt50 at hp
  split at hp
  · rename_i n z c x y
    split at hp
    · rename_i r q hr hq
      obtain ⟨⟨hv, h0, h1, c0, c1⟩, k1, k2⟩ := hp
      rw [rasOf_some hr, rasOf_some hq]
      exact loop50 K (n.toNat + 1) r q n z c (by omega) hv h0 h1 c0 c1 k1 k2
    · exact hp.elim
  · exact hp.elim
theorem L50_ok (gam : List (Nat × Con)) : LoopsOK (E0 gam L50) := loops_ok rfl ⟨in50 _ _, trivial⟩
end Go.Sx

namespace Go.Sx
open Go.Proofs
set_option linter.unusedVariables false
set_option linter.unusedSimpArgs false

def cRuns : Con := .pure (preRN fun r n => okRuns r n 0) (onRN fun r n => two (Ras.its n.toNat r).sv (.i .i64 (Ras.cks n.toNat r)))
def Ras.advR (r : Ras) (n : Int) : Ras := if r.valid = true ∧ 1 ≤ n then Ras.its (3 * n.toNat) r else r
def Ras.advN (r : Ras) (n : Int) : Int := if r.valid = true ∧ 1 ≤ n then Ras.cks (3 * n.toNat) r else 0
def cAdv : Con := .pure (preRN fun r n => i64 n) (onRN fun r n => two (r.advR n).sv (.i .i64 (IntKind.wrap .i64 (r.advN n))))
def g7 : List (Nat × Con) := [(50, cRuns), (27, cV), (28, cV), (44, cT)]

def st35 (r q : Ras) (n z c : Int) : St := ⟨[(1, .i .i64 n), (2, .ptr 0 []), (4, .ptr 1 []), (5, .i .i64 z), (8, .i .i64 c)], [r.sv, q.sv]⟩
def keep35 : List Tmp := [1, 2, 4, 5, 8]

theorem t50 (r : Ras) (n : Int) : bodyK (E0 g6 L50) (callN (E0 g6 L50) 1) 50 Try.f50 [r.sv, .i .i64 n] [] (fun x _ => onB (x.cl 0) (x = two (Ras.its n.toNat r).sv (.i .i64 (Ras.cks n.toNat r)))) = (
  Chk (okRuns r n 0) ∧ two (Ras.its n.toNat r).sv (SV.i IntKind.i64 (0 + Ras.cks n.toNat r)) = two (Ras.its n.toNat r).sv (SV.i IntKind.i64 (Ras.cks n.toNat r)) ∧ ∀ (r' : Ras) (n' c' : Int), two (Ras.its n.toNat r).sv (SV.i IntKind.i64 (0 + Ras.cks n.toNat r)) = two (Ras.its n.toNat r).sv (SV.i IntKind.i64 (Ras.cks n.toNat r))) := by kernel_rfl
theorem t34 (r : Ras) (n : Int) : bodyK (E0 g7 noLoop) (callN (E0 g7 noLoop) 1) 34 Try.f34 [r.sv, .i .i64 n] [] (fun x _ => onB (x.cl 0) (x = two (r.advR n).sv (.i .i64 (IntKind.wrap .i64 (r.advN n))))) = (
  br (!decide (n < 1) && true)
  (True ∧
    br (decide (n < 1) || !r.valid) (two r.sv (SV.i IntKind.i64 0) = two (r.advR n).sv (SV.i IntKind.i64 (IntKind.i64.wrap (r.advN n))))
      (br r.draw
        (br (decide (IntKind.i64.wrap (2 * 178683) < n))
          (Chk (okRuns r (IntKind.i64.wrap (3 * IntKind.i64.wrap (n - IntKind.i64.wrap (IntKind.i64.wrap ((IntKind.i64.wrap (n - 178683)).tdiv 178683) * 178683)))) 0) ∧
            two (Ras.its (IntKind.i64.wrap (3 * IntKind.i64.wrap (n - IntKind.i64.wrap (IntKind.i64.wrap ((IntKind.i64.wrap (n - 178683)).tdiv 178683) * 178683)))).toNat r).sv
                (SV.i IntKind.i64 (IntKind.i64.wrap (IntKind.i64.wrap (IntKind.i64.wrap ((IntKind.i64.wrap (n - 178683)).tdiv 178683) * 1446) + Ras.cks (IntKind.i64.wrap (3 * IntKind.i64.wrap (n - IntKind.i64.wrap (IntKind.i64.wrap ((IntKind.i64.wrap (n - 178683)).tdiv 178683) * 178683)))).toNat r))) =
              two (r.advR n).sv (SV.i IntKind.i64 (IntKind.i64.wrap (r.advN n))))
          (Chk (okRuns r (IntKind.i64.wrap (3 * n)) 0) ∧ two (Ras.its (IntKind.i64.wrap (3 * n)).toNat r).sv (SV.i IntKind.i64 (IntKind.i64.wrap (0 + Ras.cks (IntKind.i64.wrap (3 * n)).toNat r))) = two (r.advR n).sv (SV.i IntKind.i64 (IntKind.i64.wrap (r.advN n)))))
        (br (decide (IntKind.i64.wrap (2 * 178684) < n))
          (Chk (okRuns r (IntKind.i64.wrap (3 * IntKind.i64.wrap (n - IntKind.i64.wrap (IntKind.i64.wrap ((IntKind.i64.wrap (n - 178684)).tdiv 178684) * 178684)))) 0) ∧
            two (Ras.its (IntKind.i64.wrap (3 * IntKind.i64.wrap (n - IntKind.i64.wrap (IntKind.i64.wrap ((IntKind.i64.wrap (n - 178684)).tdiv 178684) * 178684)))).toNat r).sv
                (SV.i IntKind.i64 (IntKind.i64.wrap (IntKind.i64.wrap (IntKind.i64.wrap ((IntKind.i64.wrap (n - 178684)).tdiv 178684) * 0) + Ras.cks (IntKind.i64.wrap (3 * IntKind.i64.wrap (n - IntKind.i64.wrap (IntKind.i64.wrap ((IntKind.i64.wrap (n - 178684)).tdiv 178684) * 178684)))).toNat r))) =
              two (r.advR n).sv (SV.i IntKind.i64 (IntKind.i64.wrap (r.advN n))))
          (Chk (okRuns r (IntKind.i64.wrap (3 * n)) 0) ∧ two (Ras.its (IntKind.i64.wrap (3 * n)).toNat r).sv (SV.i IntKind.i64 (IntKind.i64.wrap (0 + Ras.cks (IntKind.i64.wrap (3 * n)).toNat r))) = two (r.advR n).sv (SV.i IntKind.i64 (IntKind.i64.wrap (r.advN n)))))))
  (br (decide (n < 1) || !false) (two r.sv (SV.i IntKind.i64 0) = two (r.advR n).sv (SV.i IntKind.i64 (IntKind.i64.wrap (r.advN n))))
    (br r.draw
      (br (decide (IntKind.i64.wrap (2 * 178683) < n))
        (Chk (okRuns r (IntKind.i64.wrap (3 * IntKind.i64.wrap (n - IntKind.i64.wrap (IntKind.i64.wrap ((IntKind.i64.wrap (n - 178683)).tdiv 178683) * 178683)))) 0) ∧
          two (Ras.its (IntKind.i64.wrap (3 * IntKind.i64.wrap (n - IntKind.i64.wrap (IntKind.i64.wrap ((IntKind.i64.wrap (n - 178683)).tdiv 178683) * 178683)))).toNat r).sv
              (SV.i IntKind.i64 (IntKind.i64.wrap (IntKind.i64.wrap (IntKind.i64.wrap ((IntKind.i64.wrap (n - 178683)).tdiv 178683) * 1446) + Ras.cks (IntKind.i64.wrap (3 * IntKind.i64.wrap (n - IntKind.i64.wrap (IntKind.i64.wrap ((IntKind.i64.wrap (n - 178683)).tdiv 178683) * 178683)))).toNat r))) =
            two (r.advR n).sv (SV.i IntKind.i64 (IntKind.i64.wrap (r.advN n))))
        (Chk (okRuns r (IntKind.i64.wrap (3 * n)) 0) ∧ two (Ras.its (IntKind.i64.wrap (3 * n)).toNat r).sv (SV.i IntKind.i64 (IntKind.i64.wrap (0 + Ras.cks (IntKind.i64.wrap (3 * n)).toNat r))) = two (r.advR n).sv (SV.i IntKind.i64 (IntKind.i64.wrap (r.advN n)))))
      (br (decide (IntKind.i64.wrap (2 * 178684) < n))
        (Chk (okRuns r (IntKind.i64.wrap (3 * IntKind.i64.wrap (n - IntKind.i64.wrap (IntKind.i64.wrap ((IntKind.i64.wrap (n - 178684)).tdiv 178684) * 178684)))) 0) ∧
          two (Ras.its (IntKind.i64.wrap (3 * IntKind.i64.wrap (n - IntKind.i64.wrap (IntKind.i64.wrap ((IntKind.i64.wrap (n - 178684)).tdiv 178684) * 178684)))).toNat r).sv
              (SV.i IntKind.i64 (IntKind.i64.wrap (IntKind.i64.wrap (IntKind.i64.wrap ((IntKind.i64.wrap (n - 178684)).tdiv 178684) * 0) + Ras.cks (IntKind.i64.wrap (3 * IntKind.i64.wrap (n - IntKind.i64.wrap (IntKind.i64.wrap ((IntKind.i64.wrap (n - 178684)).tdiv 178684) * 178684)))).toNat r))) =
            two (r.advR n).sv (SV.i IntKind.i64 (IntKind.i64.wrap (r.advN n))))
        (Chk (okRuns r (IntKind.i64.wrap (3 * n)) 0) ∧ two (Ras.its (IntKind.i64.wrap (3 * n)).toNat r).sv (SV.i IntKind.i64 (IntKind.i64.wrap (0 + Ras.cks (IntKind.i64.wrap (3 * n)).toNat r))) = two (r.advR n).sv (SV.i IntKind.i64 (IntKind.i64.wrap (r.advN n)))))))) := by kernel_rfl
theorem tl35 (r q : Ras) (n z c : Int) (N : St → Prop) (X : Kont) : (execC (E0 g7 noLoop) (callN (E0 g7 noLoop) 1) 35 Try.f35.ntmps (codeL Try.f35 13) (st35 r q n z c) (oneK keep35 2 N X)) = (
  br (decide (0 < n)) (Chk (r.valid = true) ∧ N (St.mk [(1, SV.i IntKind.i64 (IntKind.i64.wrap (n - 1))), (2, SV.ptr 0 []), (4, SV.ptr 1 []), (5, SV.i IntKind.i64 z), (8, SV.i IntKind.i64 (IntKind.i64.wrap (c + r.tickN)))] [r.tickR.sv, q.sv])) (X (Exit.exit 0) (St.mk [(1, SV.i IntKind.i64 n), (2, SV.ptr 0 []), (4, SV.ptr 1 []), (5, SV.i IntKind.i64 z), (8, SV.i IntKind.i64 c)] [r.sv, q.sv]))) := by kernel_rfl

end Go.Sx

namespace Go.Sx
open Go.Proofs
set_option linter.unusedVariables false
set_option linter.unusedSimpArgs false

theorem p50 (r : Ras) (n : Int) (h : okRuns r n 0) : bodyK (E0 g6 L50) (callN (E0 g6 L50) 1) 50 Try.f50 [r.sv, .i .i64 n] [] (fun x _ => onB (x.cl 0) (x = two (Ras.its n.toNat r).sv (.i .i64 (Ras.cks n.toNat r)))) := by
  rw [t50]
  exact ⟨⟨h⟩, by rw [Int.zero_add], fun _ _ _ => by rw [Int.zero_add]⟩

theorem g6L_ok : GamOK (E0 g6 L50) := gam_ok rfl ⟨con56.of, con41.of, con47.of, con23.of, trivial⟩
theorem con50 : ConOK (E0 g6 L50) 50 cRuns := conRN g6L_ok (L50_ok _) 1 Try.func50 fun r n h => p50 r n h
theorem g7_ok : GamOK (E0 g7 noLoop) := gam_ok rfl ⟨con50.of, con27.of, con28.of, con44.of, trivial⟩

theorem its_back {r : Ras} (h : r.valid = true) (a b j : Nat) (ha : 89342 ≤ b) (e : a = b + j * pair r.draw) :
    Ras.its a r = Ras.its b r ∧ Ras.cks a r = Ras.cks b r + j * (if r.draw = true then 482 else 0) := by
  rw [e]; exact its_pairs h b ha j

theorem p34 (r : Ras) (n : Int) (hn : i64 n) : bodyK (E0 g7 noLoop) (callN (E0 g7 noLoop) 1) 34 Try.f34 [r.sv, .i .i64 n] [] (fun x _ => onB (x.cl 0) (x = two (r.advR n).sv (.i .i64 (IntKind.wrap .i64 (r.advN n))))) := by
  rw [t34]
  unfold i64 at hn
  refine br_in (fun a => ⟨trivial, br_in (fun b => ?_) (fun b => ?_)⟩) (fun a => br_in (fun b => ?_) (fun b => ?_)) <;> simp at a
  · have : ¬ (r.valid = true ∧ 1 ≤ n) := by
      rintro ⟨h1, h2⟩; simp [h1] at b; omega
    unfold Ras.advR Ras.advN
    rw [if_neg this, if_neg this]; rfl
  · simp at b
    have hv : r.valid = true ∧ 1 ≤ n := ⟨b.2, by omega⟩
    unfold Ras.advR Ras.advN
    rw [if_pos hv, if_pos hv]
    have w2 : IntKind.i64.wrap (2 * 178683) = 357366 := by rfl
    have w3 : IntKind.i64.wrap (2 * 178684) = 357368 := by rfl
    rw [w2, w3]
    have small : n ≤ 357368 → Chk (okRuns r (IntKind.i64.wrap (3 * n)) 0) ∧ two (Ras.its (IntKind.i64.wrap (3 * n)).toNat r).sv (SV.i IntKind.i64 (IntKind.i64.wrap (0 + Ras.cks (IntKind.i64.wrap (3 * n)).toNat r))) = two (Ras.its (3 * n.toNat) r).sv (SV.i IntKind.i64 (IntKind.i64.wrap (Ras.cks (3 * n.toNat) r))) := by
      intro hs
      rw [IntWalk.i64_in (3 * n) (by omega)]
      have e : (3 * n).toNat = 3 * n.toNat := by omega
      rw [e, Int.zero_add]
      exact ⟨⟨hv.1, by omega, by omega, by omega, by omega⟩, rfl⟩
    refine br_in (fun d => br_in (fun c => ?_) (fun c => ?_)) (fun d => br_in (fun c => ?_) (fun c => ?_)) <;> simp at c
    · rw [IntWalk.i64_in (n - 178683) (by omega), IntWalk.i64_quo (n - 178683) 178683 (by omega)]
      have hk : 0 ≤ (n - 178683) / 178683 ∧ 178683 ≤ n - (n - 178683) / 178683 * 178683 ∧ n - (n - 178683) / 178683 * 178683 ≤ 357366 := by omega
      generalize (n - 178683) / 178683 = k at *
      rw [IntWalk.i64_in (k * 178683) (by omega), IntWalk.i64_in (n - k * 178683) (by omega), IntWalk.i64_in (3 * (n - k * 178683)) (by omega), IntWalk.i64_in (k * 1446) (by omega)]
      have hp : pair r.draw = 178683 := by unfold pair; rw [if_pos d]
      obtain ⟨e1, e2⟩ := its_back hv.1 (3 * n.toNat) (3 * (n - k * 178683)).toNat (3 * k.toNat) (by omega) (by rw [hp]; omega)
      refine ⟨⟨hv.1, by omega, by omega, by omega, by omega⟩, ?_⟩
      have e3 : k * 1446 + Ras.cks (3 * (n - k * 178683)).toNat r = Ras.cks (3 * (n - k * 178683)).toNat r + ((3 * k.toNat : Nat) : Int) * 482 := by omega
      rw [e1, e2, if_pos d, e3]
    · exact small (by omega)
    · rw [IntWalk.i64_in (n - 178684) (by omega), IntWalk.i64_quo (n - 178684) 178684 (by omega)]
      have hk : 0 ≤ (n - 178684) / 178684 ∧ 178684 ≤ n - (n - 178684) / 178684 * 178684 ∧ n - (n - 178684) / 178684 * 178684 ≤ 357368 := by omega
      generalize (n - 178684) / 178684 = k at *
      rw [IntWalk.i64_in (k * 178684) (by omega), IntWalk.i64_in (n - k * 178684) (by omega), IntWalk.i64_in (3 * (n - k * 178684)) (by omega), IntWalk.i64_in (k * 0) (by omega)]
      have hp : pair r.draw = 178684 := by unfold pair; rw [if_neg (by rw [d]; simp)]
      obtain ⟨e1, e2⟩ := its_back hv.1 (3 * n.toNat) (3 * (n - k * 178684)).toNat (3 * k.toNat) (by omega) (by rw [hp]; omega)
      refine ⟨⟨hv.1, by omega, by omega, by omega, by omega⟩, ?_⟩
      have e3 : k * 0 + Ras.cks (3 * (n - k * 178684)).toNat r = Ras.cks (3 * (n - k * 178684)).toNat r + ((3 * k.toNat : Nat) : Int) * 0 := by omega
      rw [e1, e2, if_neg (by rw [d]; simp), e3]
    · exact small (by omega)
  · have : ¬ (r.valid = true ∧ 1 ≤ n) := by rintro ⟨h1, h2⟩; omega
    unfold Ras.advR Ras.advN
    rw [if_neg this, if_neg this]; rfl
  · simp at b
theorem con34 : ConOK (E0 g7 noLoop) 34 cAdv := conRN g7_ok (noLoops _) 1 Try.func34 fun r n h => p34 r n h

/-! ### The document's Advance -/
theorem tick_its {r : Ras} (h : r.valid = true) : r.tickR = Ras.its 3 r ∧ r.tickN = Ras.cks 3 r := by
  have h2 := step_valid h
  have h3 := step_valid h2
  have e1 : r.dotR = r.step := by unfold Ras.dotR; rw [if_pos h]
  have e2 : r.step.dotR = r.step.step := by unfold Ras.dotR; rw [if_pos h2]
  have e3 : r.step.step.dotR = r.step.step.step := by unfold Ras.dotR; rw [if_pos h3]
  unfold Ras.tickR Ras.tickN Ras.dotC
  rw [e1, e2, e3, h, h2, h3]
  simp only [Ras.its, Ras.cks, Bool.true_and]
  exact ⟨trivial, by omega⟩

def body35 : St → Kont → Prop := execC (E0 g7 noLoop) (callN (E0 g7 noLoop) 1) 35 Try.f35.ntmps (codeL Try.f35 13)

theorem loop35 (K : Kont) : ∀ (j : Nat) (r q : Ras) (z c : Int), r.valid = true → j ≤ 1000000000 → 0 ≤ c → c + 3 * j ≤ 4611686018427387904 →
    K (Exit.exit 0) (st35 (Ras.its (3 * j) r) q 0 z (c + Ras.cks (3 * j) r)) → ∃ m, roundsN keep35 2 body35 K m (st35 r q j z c)
  | 0, r, q, z, c, hv, h1, c0, c1, k => by
    refine ⟨1, ?_⟩
    rw [roundsN_succ]; unfold body35; rw [tl35]
    refine br_in (fun a => ?_) (fun a => ?_)
    · simp at a
    · have k' := k
      simp [Ras.its, Ras.cks] at k'
      exact k'
  | j + 1, r, q, z, c, hv, h1, c0, c1, k => by
    obtain ⟨t1, t2⟩ := tick_its hv
    have hc := cks_le 3 r
    have e : 3 * (j + 1) = 3 + 3 * j := by omega
    rw [e, its_add, cks_add, ← Int.add_assoc] at k
    obtain ⟨m, hm⟩ := loop35 K j (Ras.its 3 r) q z (c + Ras.cks 3 r) (its_valid 3 hv) (by omega) (by omega) (by omega) k
    refine ⟨m + 1, ?_⟩
    rw [roundsN_succ]; unfold body35; rw [tl35]
    refine br_in (fun a => ?_) (fun a => ?_)
    · rw [t1, t2, IntWalk.i64_in (((j + 1 : Nat) : Int) - 1) (by omega), IntWalk.i64_in (c + Ras.cks 3 r) (by omega)]
      have e2 : ((j + 1 : Nat) : Int) - 1 = (j : Int) := by omega
      rw [e2]
      exact ⟨⟨hv⟩, hm⟩
    · exact absurd (of_decide_eq_false a) (by omega)

def ok35 (r : Ras) (n c : Int) : Prop := r.valid = true ∧ 0 ≤ n ∧ n ≤ 1000000000 ∧ 0 ≤ c ∧ c + 3 * n ≤ 4611686018427387904
def pt35 (s : St) (K : Kont) : Prop := match s with
  | ⟨[(1, .i .i64 n), (2, .ptr 0 []), (4, .ptr 1 []), (5, .i .i64 z), (8, .i .i64 c)], [x, y]⟩ => (match rasOf x, rasOf y with
    | some r, some q => Chk (ok35 r n c) ∧ K (Exit.exit 0) (st35 (Ras.its (3 * n.toNat) r) q 0 z (c + Ras.cks (3 * n.toNat) r))
    | _, _ => False)
  | _ => False
def l35 : LCon := ⟨keep35, pt35⟩
def L35 : List (Nat × Nat × LCon) := [(35, 13, l35)]
theorem in35 (gam : List (Nat × Con)) (loop : List (Nat × Nat × LCon)) : LoopIn (E0 gam loop) (35, 13, l35) := by
  refine loop_in g7_ok 1 Try.func35 (by kernel_rfl) fun s K hp => ?_
  change pt35 s K at hp
  unfold pt35 at hp
  split at hp
  · rename_i n z c x y
    split at hp
    · rename_i r q hr hq
      obtain ⟨⟨hv, h0, h1, c0, c1⟩, k1⟩ := hp
      rw [rasOf_some hr, rasOf_some hq]
      have e : ((n.toNat : Nat) : Int) = n := by omega
      have := loop35 K n.toNat r q z c hv (by omega) c0 (by omega) k1
      rw [e] at this
      exact this
    · exact hp.elim
  · exact hp.elim
theorem L35_ok (gam : List (Nat × Con)) : LoopsOK (E0 gam L35) := loops_ok rfl ⟨in35 _ _, trivial⟩
end Go.Sx

namespace Go.Sx
open Go.Proofs
set_option linter.unusedVariables false
set_option linter.unusedSimpArgs false

theorem t35 (r : Ras) (n : Int) : bodyK (E0 g7 L35) (callN (E0 g7 L35) 1) 35 Try.f35 [r.sv, .i .i64 n] [] (fun x _ => onB (x.cl 0) (x = two (r.advR n).sv (.i .i64 (IntKind.wrap .i64 (r.advN n))))) = (
  True ∧
  br (!r.valid || decide (n < 1)) (two r.sv (SV.i IntKind.i64 0) = two (r.advR n).sv (SV.i IntKind.i64 (IntKind.i64.wrap (r.advN n))))
    (br r.draw
      (br (decide (IntKind.i64.wrap (2 * 59561) < n))
        (br r.draw
          (Chk (ok35 r (IntKind.i64.wrap (n - IntKind.i64.wrap (IntKind.i64.wrap ((IntKind.i64.wrap (n - 59561)).tdiv 59561) * 59561))) (IntKind.i64.wrap (IntKind.i64.wrap ((IntKind.i64.wrap (n - 59561)).tdiv 59561) * 482))) ∧
            two (Ras.its (3 * (IntKind.i64.wrap (n - IntKind.i64.wrap (IntKind.i64.wrap ((IntKind.i64.wrap (n - 59561)).tdiv 59561) * 59561))).toNat) r).sv
                (SV.i IntKind.i64 (IntKind.i64.wrap (IntKind.i64.wrap ((IntKind.i64.wrap (n - 59561)).tdiv 59561) * 482) + Ras.cks (3 * (IntKind.i64.wrap (n - IntKind.i64.wrap (IntKind.i64.wrap ((IntKind.i64.wrap (n - 59561)).tdiv 59561) * 59561))).toNat) r)) =
              two (r.advR n).sv (SV.i IntKind.i64 (IntKind.i64.wrap (r.advN n))))
          (Chk (ok35 r (IntKind.i64.wrap (n - IntKind.i64.wrap (IntKind.i64.wrap ((IntKind.i64.wrap (n - 59561)).tdiv 59561) * 59561))) 0) ∧
            two (Ras.its (3 * (IntKind.i64.wrap (n - IntKind.i64.wrap (IntKind.i64.wrap ((IntKind.i64.wrap (n - 59561)).tdiv 59561) * 59561))).toNat) r).sv (SV.i IntKind.i64 (0 + Ras.cks (3 * (IntKind.i64.wrap (n - IntKind.i64.wrap (IntKind.i64.wrap ((IntKind.i64.wrap (n - 59561)).tdiv 59561) * 59561))).toNat) r)) = two (r.advR n).sv (SV.i IntKind.i64 (IntKind.i64.wrap (r.advN n)))))
        (Chk (ok35 r n 0) ∧ two (Ras.its (3 * n.toNat) r).sv (SV.i IntKind.i64 (0 + Ras.cks (3 * n.toNat) r)) = two (r.advR n).sv (SV.i IntKind.i64 (IntKind.i64.wrap (r.advN n)))))
      (br (decide (IntKind.i64.wrap (2 * 178684) < n))
        (br r.draw
          (Chk (ok35 r (IntKind.i64.wrap (n - IntKind.i64.wrap (IntKind.i64.wrap ((IntKind.i64.wrap (n - 178684)).tdiv 178684) * 178684))) (IntKind.i64.wrap (IntKind.i64.wrap ((IntKind.i64.wrap (n - 178684)).tdiv 178684) * 482))) ∧
            two (Ras.its (3 * (IntKind.i64.wrap (n - IntKind.i64.wrap (IntKind.i64.wrap ((IntKind.i64.wrap (n - 178684)).tdiv 178684) * 178684))).toNat) r).sv
                (SV.i IntKind.i64 (IntKind.i64.wrap (IntKind.i64.wrap ((IntKind.i64.wrap (n - 178684)).tdiv 178684) * 482) + Ras.cks (3 * (IntKind.i64.wrap (n - IntKind.i64.wrap (IntKind.i64.wrap ((IntKind.i64.wrap (n - 178684)).tdiv 178684) * 178684))).toNat) r)) =
              two (r.advR n).sv (SV.i IntKind.i64 (IntKind.i64.wrap (r.advN n))))
          (Chk (ok35 r (IntKind.i64.wrap (n - IntKind.i64.wrap (IntKind.i64.wrap ((IntKind.i64.wrap (n - 178684)).tdiv 178684) * 178684))) 0) ∧
            two (Ras.its (3 * (IntKind.i64.wrap (n - IntKind.i64.wrap (IntKind.i64.wrap ((IntKind.i64.wrap (n - 178684)).tdiv 178684) * 178684))).toNat) r).sv (SV.i IntKind.i64 (0 + Ras.cks (3 * (IntKind.i64.wrap (n - IntKind.i64.wrap (IntKind.i64.wrap ((IntKind.i64.wrap (n - 178684)).tdiv 178684) * 178684))).toNat) r)) = two (r.advR n).sv (SV.i IntKind.i64 (IntKind.i64.wrap (r.advN n)))))
        (Chk (ok35 r n 0) ∧ two (Ras.its (3 * n.toNat) r).sv (SV.i IntKind.i64 (0 + Ras.cks (3 * n.toNat) r)) = two (r.advR n).sv (SV.i IntKind.i64 (IntKind.i64.wrap (r.advN n))))))) := by kernel_rfl

end Go.Sx

namespace Go.Sx
open Go.Proofs
set_option linter.unusedVariables false
set_option linter.unusedSimpArgs false

theorem p35 (r : Ras) (n : Int) (hn : i64 n) : bodyK (E0 g7 L35) (callN (E0 g7 L35) 1) 35 Try.f35 [r.sv, .i .i64 n] [] (fun x _ => onB (x.cl 0) (x = two (r.advR n).sv (.i .i64 (IntKind.wrap .i64 (r.advN n))))) := by
  rw [t35]
  unfold i64 at hn
  refine ⟨trivial, br_in (fun b => ?_) (fun b => ?_)⟩
  · have : ¬ (r.valid = true ∧ 1 ≤ n) := by
      rintro ⟨h1, h2⟩; simp [h1] at b; omega
    unfold Ras.advR Ras.advN
    rw [if_neg this, if_neg this]; rfl
  · simp at b
    have hv : r.valid = true ∧ 1 ≤ n := ⟨b.1, by omega⟩
    unfold Ras.advR Ras.advN
    rw [if_pos hv, if_pos hv]
    have w2 : IntKind.i64.wrap (2 * 59561) = 119122 := by rfl
    have w3 : IntKind.i64.wrap (2 * 178684) = 357368 := by rfl
    rw [w2, w3]
    have small : n ≤ 357368 → Chk (ok35 r n 0) ∧ two (Ras.its (3 * n.toNat) r).sv (SV.i IntKind.i64 (0 + Ras.cks (3 * n.toNat) r)) = two (Ras.its (3 * n.toNat) r).sv (SV.i IntKind.i64 (IntKind.i64.wrap (Ras.cks (3 * n.toNat) r))) := by
      intro hs
      have := cks_le (3 * n.toNat) r
      rw [Int.zero_add, IntWalk.i64_in (Ras.cks (3 * n.toNat) r) (by omega)]
      exact ⟨⟨hv.1, by omega, by omega, by omega, by omega⟩, rfl⟩
    refine br_in (fun d => br_in (fun c => ?_) (fun c => ?_)) (fun d => br_in (fun c => ?_) (fun c => ?_)) <;> simp at c
    · rw [d]
      show Chk _ ∧ _
      rw [IntWalk.i64_in (n - 59561) (by omega), IntWalk.i64_quo (n - 59561) 59561 (by omega)]
      have hk : 0 ≤ (n - 59561) / 59561 ∧ 59561 ≤ n - (n - 59561) / 59561 * 59561 ∧ n - (n - 59561) / 59561 * 59561 ≤ 119122 := by omega
      generalize (n - 59561) / 59561 = k at *
      rw [IntWalk.i64_in (k * 59561) (by omega), IntWalk.i64_in (n - k * 59561) (by omega), IntWalk.i64_in (k * 482) (by omega)]
      have hp : pair r.draw = 178683 := by unfold pair; rw [if_pos d]
      have hc := cks_le (3 * (n - k * 59561).toNat) r
      obtain ⟨e1, e2⟩ := its_back hv.1 (3 * n.toNat) (3 * (n - k * 59561).toNat) k.toNat (by omega) (by rw [hp]; omega)
      refine ⟨⟨hv.1, by omega, by omega, by omega, by omega⟩, ?_⟩
      have e3 : k * 482 + Ras.cks (3 * (n - k * 59561).toNat) r = Ras.cks (3 * (n - k * 59561).toNat) r + (k.toNat : Int) * 482 := by omega
      rw [e1, e2, if_pos d, e3, IntWalk.i64_in (Ras.cks (3 * (n - k * 59561).toNat) r + (k.toNat : Int) * 482) (by omega)]
    · exact small (by omega)
    · rw [d]
      show Chk _ ∧ _
      rw [IntWalk.i64_in (n - 178684) (by omega), IntWalk.i64_quo (n - 178684) 178684 (by omega)]
      have hk : 0 ≤ (n - 178684) / 178684 ∧ 178684 ≤ n - (n - 178684) / 178684 * 178684 ∧ n - (n - 178684) / 178684 * 178684 ≤ 357368 := by omega
      generalize (n - 178684) / 178684 = k at *
      rw [IntWalk.i64_in (k * 178684) (by omega), IntWalk.i64_in (n - k * 178684) (by omega)]
      have hp : pair r.draw = 178684 := by unfold pair; rw [if_neg (by rw [d]; simp)]
      have hc := cks_le (3 * (n - k * 178684).toNat) r
      obtain ⟨e1, e2⟩ := its_back hv.1 (3 * n.toNat) (3 * (n - k * 178684).toNat) (3 * k.toNat) (by omega) (by rw [hp]; omega)
      refine ⟨⟨hv.1, by omega, by omega, by omega, by omega⟩, ?_⟩
      have e3 : 0 + Ras.cks (3 * (n - k * 178684).toNat) r = Ras.cks (3 * (n - k * 178684).toNat) r + ((3 * k.toNat : Nat) : Int) * 0 := by omega
      rw [e1, e2, if_neg (by rw [d]; simp), ← e3, Int.zero_add, IntWalk.i64_in (Ras.cks (3 * (n - k * 178684).toNat) r) (by omega)]
    · exact small (by omega)
theorem g7L_ok : GamOK (E0 g7 L35) := gam_ok rfl ⟨con50.of, con27.of, con28.of, con44.of, trivial⟩
theorem con35 : ConOK (E0 g7 L35) 35 cAdv := conRN g7L_ok (L35_ok _) 1 Try.func35 fun r n h => p35 r n h
end Go.Sx
