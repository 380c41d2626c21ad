/- SxR3: Valid, Dot, Tick: contracts. -/
import Derived.Test.YtmgaphghjhbhhaaSxR2
namespace Go.Sx
open Go.Proofs
set_option linter.unusedVariables false
set_option linter.unusedSimpArgs false

def pre0 : List SV → Prop := fun _ => True
def preR (p : Ras → Prop) (l : List SV) : Prop := match l with
  | [x] => match rasOf x with
    | some r => Chk (p r)
    | none => False
  | _ => False
theorem rasOf_sv (r : Ras) : rasOf r.sv = some r := rfl

def Ras.dotR (r : Ras) : Ras := if r.valid then r.step else r
def Ras.dotC (r : Ras) : Bool := r.valid && r.clock
def Ras.tickR (r : Ras) : Ras := r.dotR.dotR.dotR
def Ras.tickN (r : Ras) : Int := nat01 r.dotC + nat01 r.dotR.dotC + nat01 r.dotR.dotR.dotC

def cV : Con := .pure pre0 (onR fun r => .b r.valid)
def cD : Con := .pure (preR fun r => r.valid = true) (onR fun r => two r.step.sv (.i .i64 (nat01 r.clock)))
def cDot : Con := .pure pre0 (onR fun r => two r.dotR.sv (.b r.dotC))
def cT : Con := .pure (preR fun r => r.valid = true) (onR fun r => two r.tickR.sv (.i .i64 r.tickN))
def cTick : Con := .pure pre0 (onR fun r => two r.tickR.sv (.i .i64 r.tickN))
def g1 : List (Nat × Con) := [(27, cV), (28, cV), (43, cD)]
def g2 : List (Nat × Con) := (23, cDot) :: (24, cDot) :: g1

theorem t24 (r : Ras) : bodyK (E0 g1 noLoop) (callN (E0 g1 noLoop) 1) 24 Try.f24 [r.sv] [] (fun x _ => onB (x.cl 0) (x = two r.dotR.sv (.b r.dotC))) = (
  True ∧ br (!r.valid) (two r.sv (SV.b false) = two r.dotR.sv (SV.b r.dotC)) (Chk (r.valid = true) ∧ two r.step.sv (SV.b (nat01 r.clock == 1)) = two r.dotR.sv (SV.b r.dotC))) := by kernel_rfl
theorem t23 (r : Ras) : bodyK (E0 g1 noLoop) (callN (E0 g1 noLoop) 3) 23 Try.f23 [r.sv] [] (fun x _ => onB (x.cl 0) (x = two r.dotR.sv (.b r.dotC))) = (
  True ∧
  br (!r.valid) (two r.sv (SV.b false) = two r.dotR.sv (SV.b r.dotC))
    (br (r.line == 261 && r.dot == 339 && r.odd && r.draw) (two (rsv 0 0 (!r.odd) r.vbl r.nmi r.draw r.hold) (SV.b (r.draw && 0 == 260 && (decide (0 < 240) || 0 == 261))) = two r.dotR.sv (SV.b r.dotC))
      (br (IntKind.i64.wrap (r.dot + 1) == 341)
        (br ((IntKind.i64.wrap (r.line + 1)).tmod 262 == 0 && 0 == 0)
          (br ((IntKind.i64.wrap (r.line + 1)).tmod 262 != 241 || 0 != 1)
            (br ((IntKind.i64.wrap (r.line + 1)).tmod 262 == 261 && 0 == 1) (two (rsv ((IntKind.i64.wrap (r.line + 1)).tmod 262) 0 (!r.odd) false r.nmi r.draw r.hold) (SV.b (r.draw && 0 == 260 && (decide ((IntKind.i64.wrap (r.line + 1)).tmod 262 < 240) || (IntKind.i64.wrap (r.line + 1)).tmod 262 == 261))) = two r.dotR.sv (SV.b r.dotC))
              (two (rsv ((IntKind.i64.wrap (r.line + 1)).tmod 262) 0 (!r.odd) r.vbl r.nmi r.draw r.hold) (SV.b (r.draw && 0 == 260 && (decide ((IntKind.i64.wrap (r.line + 1)).tmod 262 < 240) || (IntKind.i64.wrap (r.line + 1)).tmod 262 == 261))) = two r.dotR.sv (SV.b r.dotC)))
            (br r.hold
              (br ((IntKind.i64.wrap (r.line + 1)).tmod 262 == 261 && 0 == 1) (two (rsv ((IntKind.i64.wrap (r.line + 1)).tmod 262) 0 (!r.odd) false r.nmi r.draw false) (SV.b (r.draw && 0 == 260 && (decide ((IntKind.i64.wrap (r.line + 1)).tmod 262 < 240) || (IntKind.i64.wrap (r.line + 1)).tmod 262 == 261))) = two r.dotR.sv (SV.b r.dotC))
                (two (rsv ((IntKind.i64.wrap (r.line + 1)).tmod 262) 0 (!r.odd) r.vbl r.nmi r.draw false) (SV.b (r.draw && 0 == 260 && (decide ((IntKind.i64.wrap (r.line + 1)).tmod 262 < 240) || (IntKind.i64.wrap (r.line + 1)).tmod 262 == 261))) = two r.dotR.sv (SV.b r.dotC)))
              (br ((IntKind.i64.wrap (r.line + 1)).tmod 262 == 261 && 0 == 1) (two (rsv ((IntKind.i64.wrap (r.line + 1)).tmod 262) 0 (!r.odd) false r.nmi r.draw r.hold) (SV.b (r.draw && 0 == 260 && (decide ((IntKind.i64.wrap (r.line + 1)).tmod 262 < 240) || (IntKind.i64.wrap (r.line + 1)).tmod 262 == 261))) = two r.dotR.sv (SV.b r.dotC))
                (two (rsv ((IntKind.i64.wrap (r.line + 1)).tmod 262) 0 (!r.odd) true r.nmi r.draw r.hold) (SV.b (r.draw && 0 == 260 && (decide ((IntKind.i64.wrap (r.line + 1)).tmod 262 < 240) || (IntKind.i64.wrap (r.line + 1)).tmod 262 == 261))) = two r.dotR.sv (SV.b r.dotC)))))
          (br ((IntKind.i64.wrap (r.line + 1)).tmod 262 != 241 || 0 != 1)
            (br ((IntKind.i64.wrap (r.line + 1)).tmod 262 == 261 && 0 == 1) (two (rsv ((IntKind.i64.wrap (r.line + 1)).tmod 262) 0 r.odd false r.nmi r.draw r.hold) (SV.b (r.draw && 0 == 260 && (decide ((IntKind.i64.wrap (r.line + 1)).tmod 262 < 240) || (IntKind.i64.wrap (r.line + 1)).tmod 262 == 261))) = two r.dotR.sv (SV.b r.dotC))
              (two (rsv ((IntKind.i64.wrap (r.line + 1)).tmod 262) 0 r.odd r.vbl r.nmi r.draw r.hold) (SV.b (r.draw && 0 == 260 && (decide ((IntKind.i64.wrap (r.line + 1)).tmod 262 < 240) || (IntKind.i64.wrap (r.line + 1)).tmod 262 == 261))) = two r.dotR.sv (SV.b r.dotC)))
            (br r.hold
              (br ((IntKind.i64.wrap (r.line + 1)).tmod 262 == 261 && 0 == 1) (two (rsv ((IntKind.i64.wrap (r.line + 1)).tmod 262) 0 r.odd false r.nmi r.draw false) (SV.b (r.draw && 0 == 260 && (decide ((IntKind.i64.wrap (r.line + 1)).tmod 262 < 240) || (IntKind.i64.wrap (r.line + 1)).tmod 262 == 261))) = two r.dotR.sv (SV.b r.dotC))
                (two (rsv ((IntKind.i64.wrap (r.line + 1)).tmod 262) 0 r.odd r.vbl r.nmi r.draw false) (SV.b (r.draw && 0 == 260 && (decide ((IntKind.i64.wrap (r.line + 1)).tmod 262 < 240) || (IntKind.i64.wrap (r.line + 1)).tmod 262 == 261))) = two r.dotR.sv (SV.b r.dotC)))
              (br ((IntKind.i64.wrap (r.line + 1)).tmod 262 == 261 && 0 == 1) (two (rsv ((IntKind.i64.wrap (r.line + 1)).tmod 262) 0 r.odd false r.nmi r.draw r.hold) (SV.b (r.draw && 0 == 260 && (decide ((IntKind.i64.wrap (r.line + 1)).tmod 262 < 240) || (IntKind.i64.wrap (r.line + 1)).tmod 262 == 261))) = two r.dotR.sv (SV.b r.dotC))
                (two (rsv ((IntKind.i64.wrap (r.line + 1)).tmod 262) 0 r.odd true r.nmi r.draw r.hold) (SV.b (r.draw && 0 == 260 && (decide ((IntKind.i64.wrap (r.line + 1)).tmod 262 < 240) || (IntKind.i64.wrap (r.line + 1)).tmod 262 == 261))) = two r.dotR.sv (SV.b r.dotC))))))
        (br (r.line == 0 && IntKind.i64.wrap (r.dot + 1) == 0)
          (br (r.line != 241 || IntKind.i64.wrap (r.dot + 1) != 1)
            (br (r.line == 261 && IntKind.i64.wrap (r.dot + 1) == 1) (two (rsv r.line (IntKind.i64.wrap (r.dot + 1)) (!r.odd) false r.nmi r.draw r.hold) (SV.b (r.draw && IntKind.i64.wrap (r.dot + 1) == 260 && (decide (r.line < 240) || r.line == 261))) = two r.dotR.sv (SV.b r.dotC))
              (two (rsv r.line (IntKind.i64.wrap (r.dot + 1)) (!r.odd) r.vbl r.nmi r.draw r.hold) (SV.b (r.draw && IntKind.i64.wrap (r.dot + 1) == 260 && (decide (r.line < 240) || r.line == 261))) = two r.dotR.sv (SV.b r.dotC)))
            (br r.hold
              (br (r.line == 261 && IntKind.i64.wrap (r.dot + 1) == 1) (two (rsv r.line (IntKind.i64.wrap (r.dot + 1)) (!r.odd) false r.nmi r.draw false) (SV.b (r.draw && IntKind.i64.wrap (r.dot + 1) == 260 && (decide (r.line < 240) || r.line == 261))) = two r.dotR.sv (SV.b r.dotC))
                (two (rsv r.line (IntKind.i64.wrap (r.dot + 1)) (!r.odd) r.vbl r.nmi r.draw false) (SV.b (r.draw && IntKind.i64.wrap (r.dot + 1) == 260 && (decide (r.line < 240) || r.line == 261))) = two r.dotR.sv (SV.b r.dotC)))
              (br (r.line == 261 && IntKind.i64.wrap (r.dot + 1) == 1) (two (rsv r.line (IntKind.i64.wrap (r.dot + 1)) (!r.odd) false r.nmi r.draw r.hold) (SV.b (r.draw && IntKind.i64.wrap (r.dot + 1) == 260 && (decide (r.line < 240) || r.line == 261))) = two r.dotR.sv (SV.b r.dotC))
                (two (rsv r.line (IntKind.i64.wrap (r.dot + 1)) (!r.odd) true r.nmi r.draw r.hold) (SV.b (r.draw && IntKind.i64.wrap (r.dot + 1) == 260 && (decide (r.line < 240) || r.line == 261))) = two r.dotR.sv (SV.b r.dotC)))))
          (br (r.line != 241 || IntKind.i64.wrap (r.dot + 1) != 1)
            (br (r.line == 261 && IntKind.i64.wrap (r.dot + 1) == 1) (two (rsv r.line (IntKind.i64.wrap (r.dot + 1)) r.odd false r.nmi r.draw r.hold) (SV.b (r.draw && IntKind.i64.wrap (r.dot + 1) == 260 && (decide (r.line < 240) || r.line == 261))) = two r.dotR.sv (SV.b r.dotC))
              (two (rsv r.line (IntKind.i64.wrap (r.dot + 1)) r.odd r.vbl r.nmi r.draw r.hold) (SV.b (r.draw && IntKind.i64.wrap (r.dot + 1) == 260 && (decide (r.line < 240) || r.line == 261))) = two r.dotR.sv (SV.b r.dotC)))
            (br r.hold
              (br (r.line == 261 && IntKind.i64.wrap (r.dot + 1) == 1) (two (rsv r.line (IntKind.i64.wrap (r.dot + 1)) r.odd false r.nmi r.draw false) (SV.b (r.draw && IntKind.i64.wrap (r.dot + 1) == 260 && (decide (r.line < 240) || r.line == 261))) = two r.dotR.sv (SV.b r.dotC))
                (two (rsv r.line (IntKind.i64.wrap (r.dot + 1)) r.odd r.vbl r.nmi r.draw false) (SV.b (r.draw && IntKind.i64.wrap (r.dot + 1) == 260 && (decide (r.line < 240) || r.line == 261))) = two r.dotR.sv (SV.b r.dotC)))
              (br (r.line == 261 && IntKind.i64.wrap (r.dot + 1) == 1) (two (rsv r.line (IntKind.i64.wrap (r.dot + 1)) r.odd false r.nmi r.draw r.hold) (SV.b (r.draw && IntKind.i64.wrap (r.dot + 1) == 260 && (decide (r.line < 240) || r.line == 261))) = two r.dotR.sv (SV.b r.dotC))
                (two (rsv r.line (IntKind.i64.wrap (r.dot + 1)) r.odd true r.nmi r.draw r.hold) (SV.b (r.draw && IntKind.i64.wrap (r.dot + 1) == 260 && (decide (r.line < 240) || r.line == 261))) = two r.dotR.sv (SV.b r.dotC))))))))) := by kernel_rfl
theorem t25 (r : Ras) : bodyK (E0 g2 noLoop) (callN (E0 g2 noLoop) 1) 25 Try.f25 [r.sv] [] (fun x _ => onB (x.cl 0) (x = two r.tickR.sv (.i .i64 r.tickN))) = (
  True ∧
  br r.dotC
    (True ∧
      br r.dotR.dotC (True ∧ br r.dotR.dotR.dotC (two r.dotR.dotR.dotR.sv (SV.i IntKind.i64 (IntKind.i64.wrap (IntKind.i64.wrap (IntKind.i64.wrap (0 + 1) + 1) + 1))) = two r.tickR.sv (SV.i IntKind.i64 r.tickN)) (two r.dotR.dotR.dotR.sv (SV.i IntKind.i64 (IntKind.i64.wrap (IntKind.i64.wrap (0 + 1) + 1))) = two r.tickR.sv (SV.i IntKind.i64 r.tickN)))
        (True ∧ br r.dotR.dotR.dotC (two r.dotR.dotR.dotR.sv (SV.i IntKind.i64 (IntKind.i64.wrap (IntKind.i64.wrap (0 + 1) + 1))) = two r.tickR.sv (SV.i IntKind.i64 r.tickN)) (two r.dotR.dotR.dotR.sv (SV.i IntKind.i64 (IntKind.i64.wrap (0 + 1))) = two r.tickR.sv (SV.i IntKind.i64 r.tickN))))
    (True ∧
      br r.dotR.dotC (True ∧ br r.dotR.dotR.dotC (two r.dotR.dotR.dotR.sv (SV.i IntKind.i64 (IntKind.i64.wrap (IntKind.i64.wrap (0 + 1) + 1))) = two r.tickR.sv (SV.i IntKind.i64 r.tickN)) (two r.dotR.dotR.dotR.sv (SV.i IntKind.i64 (IntKind.i64.wrap (0 + 1))) = two r.tickR.sv (SV.i IntKind.i64 r.tickN)))
        (True ∧ br r.dotR.dotR.dotC (two r.dotR.dotR.dotR.sv (SV.i IntKind.i64 (IntKind.i64.wrap (0 + 1))) = two r.tickR.sv (SV.i IntKind.i64 r.tickN)) (two r.dotR.dotR.dotR.sv (SV.i IntKind.i64 0) = two r.tickR.sv (SV.i IntKind.i64 r.tickN))))) := by kernel_rfl
theorem t44 (r : Ras) : bodyK (E0 g2 noLoop) (callN (E0 g2 noLoop) 1) 44 Try.f44 [r.sv] [] (fun x _ => onB (x.cl 0) (x = two r.tickR.sv (.i .i64 r.tickN))) = (
  Chk (r.valid = true) ∧ Chk (r.step.valid = true) ∧ Chk (r.step.step.valid = true) ∧ two r.step.step.step.sv (SV.i IntKind.i64 (IntKind.i64.wrap (IntKind.i64.wrap (nat01 r.clock + nat01 r.step.clock) + nat01 r.step.step.clock))) = two r.tickR.sv (SV.i IntKind.i64 r.tickN)) := by kernel_rfl

end Go.Sx
