/- SxR5: the line, the reads, the writes, near: their trees. -/
import Derived.Test.YtmgaphghjhbhhaaSxR4
namespace Go.Sx
open Go.Proofs
set_option linter.unusedVariables false
set_option linter.unusedSimpArgs false

def onRU (F : Ras → Int → SV) (l : List SV) : Option SV := match l with
  | [x, .i .u8 n] => match rasOf x with
    | some r => some (F r n)
    | none => none
  | _ => none
theorem onRU_some {F : Ras → Int → SV} {l : List SV} {v : SV} (h : onRU F l = some v) : ∃ r n, l = [r.sv, .i .u8 n] ∧ v = F r n := by
  unfold onRU at h
  split at h
  · split at h
    · rename_i r hr
      simp at h; subst h
      exact ⟨r, _, by rw [rasOf_some hr], rfl⟩
    · simp at h
  · simp at h
def onRN (F : Ras → Int → SV) (l : List SV) : Option SV := match l with
  | [x, .i .i64 n] => match rasOf x with
    | some r => some (F r n)
    | none => none
  | _ => none
theorem onRN_some {F : Ras → Int → SV} {l : List SV} {v : SV} (h : onRN F l = some v) : ∃ r n, l = [r.sv, .i .i64 n] ∧ v = F r n := by
  unfold onRN at h
  split at h
  · split at h
    · rename_i r hr
      simp at h; subst h
      exact ⟨r, _, by rw [rasOf_some hr], rfl⟩
    · simp at h
  · simp at h
def preRU (p : Ras → Int → Prop) (l : List SV) : Prop := match l with
  | [x, .i .u8 n] => match rasOf x with
    | some r => Chk (p r n)
    | none => False
  | _ => False
def preRN (p : Ras → Int → Prop) (l : List SV) : Prop := match l with
  | [x, .i .i64 n] => match rasOf x with
    | some r => Chk (p r n)
    | none => False
  | _ => False

def Ras.ctrl (r : Ras) (v : Int) : Ras := { r with nmi := if r.valid = true then decide (128 ≤ v) else r.nmi }
def Ras.mask (r : Ras) (v : Int) : Ras := { r with draw := if r.valid = true then iand .u8 v 24 != 0 else r.draw }
def Ras.up (r : Ras) : Bool := r.valid && r.vbl && r.nmi
def Ras.stV (r : Ras) : Int := if r.valid = true ∧ r.vbl = true then 128 else 0
def Ras.stR (r : Ras) : Ras := if r.valid = true then { r with vbl := false, hold := r.hold || decide (r.pl = 82181) } else r
def spf (n lo hi : Int) : Int := lo + (if n < 0 then -(n + 1) else n) % (hi - lo + 1)
def onSpan (l : List SV) : Option SV := match l with
  | [.i .i64 n, .i .i64 lo, .i .i64 hi] => some (.i .i64 (spf n lo hi))
  | _ => none
def spanOK (n lo hi : Int) : Prop := (-9223372036854775808 ≤ n ∧ n ≤ 9223372036854775807) ∧ 0 ≤ lo ∧ lo ≤ hi ∧ hi ≤ 4611686018427387904
def preSpan (l : List SV) : Prop := match l with
  | [.i .i64 n, .i .i64 lo, .i .i64 hi] => Chk (spanOK n lo hi)
  | _ => False
def cSpan : Con := .pure preSpan onSpan
def gS : List (Nat × Con) := [(36, cSpan)]
def Ras.nearL (r : Ras) : Bool := decide (241 < spf r.line 0 261 ∧ spf r.line 0 261 < 261) || decide (spf r.line 0 261 = 241 ∧ 0 < spf r.dot 0 340) || decide (spf r.line 0 261 = 261 ∧ spf r.dot 0 340 = 0)
def Ras.nearR (r : Ras) : Ras := { line := spf r.line 0 261, dot := spf r.dot 0 340, odd := r.odd, vbl := r.vbl && r.nearL, nmi := r.nmi, draw := r.draw, hold := r.hold && decide (spf r.line 0 261 = 241 ∧ spf r.dot 0 340 = 0) }

def u8 (n : Int) : Prop := 0 ≤ n ∧ n ≤ 255
def i64 (n : Int) : Prop := -9223372036854775808 ≤ n ∧ n ≤ 9223372036854775807
def Ras.fit (r : Ras) : Prop := i64 r.line ∧ i64 r.dot

def cCtrl : Con := .pure (preRU fun _ v => u8 v) (onRU fun r v => (r.ctrl v).sv)
def cMask : Con := .pure (preRU fun _ v => u8 v) (onRU fun r v => (r.mask v).sv)
def cLine : Con := .pure pre0 (onR fun r => .b r.up)
def cStat : Con := .pure pre0 (onR fun r => two (.i .u8 r.stV) r.stR.sv)
def cNear : Con := .pure (preR fun r => r.fit) (onR fun r => r.nearR.sv)
def g3 : List (Nat × Con) := [(36, cSpan), (25, cTick), (44, cT), (23, cDot), (24, cDot), (27, cV), (28, cV), (43, cD)]

theorem t36 (n lo hi : Int) : bodyK (E0 gV noLoop) (callN (E0 gV noLoop) 1) 36 Try.f36 [.i .i64 n, .i .i64 lo, .i .i64 hi] [] (fun x _ => onB (x.cl 0) (x = .i .i64 (spf n lo hi))) = (
  br (decide (n < 0)) (br (!decide (IntKind.i64.wrap (IntKind.i64.wrap (hi - lo) + 1) = 0)) (SV.i IntKind.i64 (IntKind.i64.wrap (lo + (IntKind.i64.wrap (0 - IntKind.i64.wrap (n + 1))).tmod (IntKind.i64.wrap (IntKind.i64.wrap (hi - lo) + 1)))) = SV.i IntKind.i64 (spf n lo hi)) False)
  (br (!decide (IntKind.i64.wrap (IntKind.i64.wrap (hi - lo) + 1) = 0)) (SV.i IntKind.i64 (IntKind.i64.wrap (lo + n.tmod (IntKind.i64.wrap (IntKind.i64.wrap (hi - lo) + 1)))) = SV.i IntKind.i64 (spf n lo hi)) False)) := by kernel_rfl
theorem t16 (r : Ras) (v : Int) : bodyK (E0 g3 noLoop) (callN (E0 g3 noLoop) 1) 16 Try.f16 [r.sv, .i .u8 v] [] (fun x _ => onB (x.cl 0) (x = (r.ctrl v).sv)) = (
  True ∧ br r.valid (rsv r.line r.dot r.odd r.vbl (iand IntKind.u8 v 128 != 0) r.draw r.hold = (r.ctrl v).sv) (r.sv = (r.ctrl v).sv)) := by kernel_rfl
theorem t21 (r : Ras) (v : Int) : bodyK (E0 g3 noLoop) (callN (E0 g3 noLoop) 1) 21 Try.f21 [r.sv, .i .u8 v] [] (fun x _ => onB (x.cl 0) (x = (r.ctrl v).sv)) = (
  True ∧ br r.valid (rsv r.line r.dot r.odd r.vbl (decide (128 ≤ v)) r.draw r.hold = (r.ctrl v).sv) (r.sv = (r.ctrl v).sv)) := by kernel_rfl
theorem t18 (r : Ras) (v : Int) : bodyK (E0 g3 noLoop) (callN (E0 g3 noLoop) 1) 18 Try.f18 [r.sv, .i .u8 v] [] (fun x _ => onB (x.cl 0) (x = (r.mask v).sv)) = (
  True ∧ br r.valid (rsv r.line r.dot r.odd r.vbl r.nmi (iand IntKind.u8 v 24 != 0) r.hold = (r.mask v).sv) (r.sv = (r.mask v).sv)) := by kernel_rfl
theorem t22 (r : Ras) (v : Int) : bodyK (E0 g3 noLoop) (callN (E0 g3 noLoop) 1) 22 Try.f22 [r.sv, .i .u8 v] [] (fun x _ => onB (x.cl 0) (x = (r.mask v).sv)) = (
  True ∧ br r.valid (rsv r.line r.dot r.odd r.vbl r.nmi (iand IntKind.u8 v 24 != 0) r.hold = (r.mask v).sv) (r.sv = (r.mask v).sv)) := by kernel_rfl
theorem t17 (r : Ras) : bodyK (E0 g3 noLoop) (callN (E0 g3 noLoop) 1) 17 Try.f17 [r.sv] [] (fun x _ => onB (x.cl 0) (x = .b r.up)) = (
  True ∧ SV.b (r.valid && r.vbl && r.nmi) = SV.b r.up) := by kernel_rfl
theorem t29 (r : Ras) : bodyK (E0 g3 noLoop) (callN (E0 g3 noLoop) 1) 29 Try.f29 [r.sv] [] (fun x _ => onB (x.cl 0) (x = .b r.up)) = (
  True ∧ SV.b (r.valid && r.vbl && r.nmi) = SV.b r.up) := by kernel_rfl
theorem t19 (r : Ras) : bodyK (E0 g3 noLoop) (callN (E0 g3 noLoop) 3) 19 Try.f19 [r.sv] [] (fun x _ => onB (x.cl 0) (x = two (.i .u8 r.stV) r.stR.sv)) = (
  True ∧
  br (!r.valid) (two (SV.i IntKind.u8 0) r.sv = two (SV.i IntKind.u8 r.stV) r.stR.sv)
    (br r.vbl (br (IntKind.i64.wrap (IntKind.i64.wrap (r.line * 341) + r.dot) == 82181) (two (SV.i IntKind.u8 128) (rsv r.line r.dot r.odd false r.nmi r.draw true) = two (SV.i IntKind.u8 r.stV) r.stR.sv) (two (SV.i IntKind.u8 128) (rsv r.line r.dot r.odd false r.nmi r.draw r.hold) = two (SV.i IntKind.u8 r.stV) r.stR.sv))
      (br (IntKind.i64.wrap (IntKind.i64.wrap (r.line * 341) + r.dot) == 82181) (two (SV.i IntKind.u8 0) (rsv r.line r.dot r.odd false r.nmi r.draw true) = two (SV.i IntKind.u8 r.stV) r.stR.sv) (two (SV.i IntKind.u8 0) (rsv r.line r.dot r.odd false r.nmi r.draw r.hold) = two (SV.i IntKind.u8 r.stV) r.stR.sv)))) := by kernel_rfl
theorem t20 (r : Ras) : bodyK (E0 g3 noLoop) (callN (E0 g3 noLoop) 1) 20 Try.f20 [r.sv] [] (fun x _ => onB (x.cl 0) (x = two (.i .u8 r.stV) r.stR.sv)) = (
  True ∧
  br (!r.valid) (two (SV.i IntKind.u8 0) r.sv = two (SV.i IntKind.u8 r.stV) r.stR.sv)
    (br r.vbl (br (r.line == 241 && r.dot == 0) (two (SV.i IntKind.u8 128) (rsv r.line r.dot r.odd false r.nmi r.draw true) = two (SV.i IntKind.u8 r.stV) r.stR.sv) (two (SV.i IntKind.u8 128) (rsv r.line r.dot r.odd false r.nmi r.draw r.hold) = two (SV.i IntKind.u8 r.stV) r.stR.sv))
      (br (r.line == 241 && r.dot == 0) (two (SV.i IntKind.u8 0) (rsv r.line r.dot r.odd false r.nmi r.draw true) = two (SV.i IntKind.u8 r.stV) r.stR.sv) (two (SV.i IntKind.u8 0) (rsv r.line r.dot r.odd false r.nmi r.draw r.hold) = two (SV.i IntKind.u8 r.stV) r.stR.sv)))) := by kernel_rfl
theorem t15 (r : Ras) : bodyK (E0 g3 noLoop) (callN (E0 g3 noLoop) 3) 15 Try.f15 [r.sv] [] (fun x _ => onB (x.cl 0) (x = r.nearR.sv)) = (
  Chk (spanOK r.line 0 261) ∧ Chk (spanOK r.dot 0 340) ∧ rsv (spf r.line 0 261) (spf r.dot 0 340) r.odd (r.vbl && (decide (241 < spf r.line 0 261) && decide (spf r.line 0 261 < 261) || spf r.line 0 261 == 241 && decide (0 < spf r.dot 0 340) || spf r.line 0 261 == 261 && spf r.dot 0 340 == 0)) r.nmi r.draw (r.hold && spf r.line 0 261 == 241 && spf r.dot 0 340 == 0) = r.nearR.sv) := by kernel_rfl
theorem t26 (r : Ras) : bodyK (E0 g3 noLoop) (callN (E0 g3 noLoop) 1) 26 Try.f26 [r.sv] [] (fun x _ => onB (x.cl 0) (x = two r.tickR.sv (.i .i64 r.tickN))) = (
  True ∧ br (!r.valid) (two r.sv (SV.i IntKind.i64 0) = two r.tickR.sv (SV.i IntKind.i64 r.tickN)) (Chk (r.valid = true) ∧ two r.tickR.sv (SV.i IntKind.i64 r.tickN) = two r.tickR.sv (SV.i IntKind.i64 r.tickN))) := by kernel_rfl

end Go.Sx
