/- SxR10: place, length, struck, skip: trees. -/
import Derived.Test.YtmgaphghjhbhhaaSxM1
import Derived.Test.YtmgaphghjhbhhaaSxR6
namespace Go.Sx
open Go.Proofs
set_option linter.unusedVariables false
set_option linter.unusedSimpArgs false

def onN (F : Int → SV) (l : List SV) : Option SV := match l with
  | [.i .i64 n] => some (F n)
  | _ => none
def preN (p : Int → Prop) (l : List SV) : Prop := match l with
  | [.i .i64 n] => Chk (p n)
  | _ => False
theorem onN_some {F : Int → SV} {l : List SV} {v : SV} (h : onN F l = some v) : ∃ n, l = [.i .i64 n] ∧ v = F n := by
  unfold onN at h
  split at h
  · simp at h; subst h; exact ⟨_, rfl, rfl⟩
  · simp at h

def Ras.len (r : Ras) : Int := if r.odd = true ∧ r.draw = true then 89341 else 89342
def Ras.skN (r : Ras) (n : Int) : Int := if r.draw = true then struck (r.pl + n) - struck r.pl else 0
def okPlace (p : Int) : Prop := 0 ≤ p ∧ p ≤ 1000000
def okSkip (r : Ras) (n : Int) : Prop := r.valid = true ∧ 0 ≤ n ∧ r.pl + n ≤ 89341

def cPlace : Con := .pure (preR fun r => r.valid = true) (onR fun r => .i .i64 r.pl)
def cLen : Con := .pure pre0 (onR fun r => .i .i64 r.len)
def cStruck : Con := .pure (preN okPlace) (onN fun p => .i .i64 (struck p))
def cSkip : Con := .pure (preRN okSkip) (onRN fun r n => two (r.jump (r.pl + n)).sv (.i .i64 (r.skN n)))
def g5 : List (Nat × Con) := [(41, cPlace), (47, cLen), (48, cStruck)]

theorem t41 (r : Ras) : bodyK (E0 gV noLoop) (callN (E0 gV noLoop) 1) 41 Try.f41 [r.sv] [] (fun x _ => onB (x.cl 0) (x = .i .i64 r.pl)) = (
  SV.i IntKind.i64 (IntKind.i64.wrap (IntKind.i64.wrap (r.line * 341) + r.dot)) = SV.i IntKind.i64 r.pl) := by kernel_rfl
theorem t47 (r : Ras) : bodyK (E0 gV noLoop) (callN (E0 gV noLoop) 1) 47 Try.f47 [r.sv] [] (fun x _ => onB (x.cl 0) (x = .i .i64 r.len)) = (
  br (r.odd && r.draw) (SV.i IntKind.i64 89341 = SV.i IntKind.i64 r.len) (SV.i IntKind.i64 89342 = SV.i IntKind.i64 r.len)) := by kernel_rfl
theorem t48 (p : Int) : bodyK (E0 gV noLoop) (callN (E0 gV noLoop) 1) 48 Try.f48 [.i .i64 p] [] (fun x _ => onB (x.cl 0) (x = .i .i64 (struck p))) = (
  br (decide (p < 260)) (SV.i IntKind.i64 0 = SV.i IntKind.i64 (struck p))
  (br (decide (89261 ≤ p)) (SV.i IntKind.i64 (IntKind.i64.wrap ((bif decide (240 < IntKind.i64.wrap (IntKind.i64.wrap ((IntKind.i64.wrap (p - 260)).tdiv 341) + 1)) then 240 else IntKind.i64.wrap (IntKind.i64.wrap ((IntKind.i64.wrap (p - 260)).tdiv 341) + 1)) + 1)) = SV.i IntKind.i64 (struck p))
    (SV.i IntKind.i64 (bif decide (240 < IntKind.i64.wrap (IntKind.i64.wrap ((IntKind.i64.wrap (p - 260)).tdiv 341) + 1)) then 240 else IntKind.i64.wrap (IntKind.i64.wrap ((IntKind.i64.wrap (p - 260)).tdiv 341) + 1)) = SV.i IntKind.i64 (struck p)))) := by kernel_rfl
theorem t56 (r : Ras) (n : Int) : bodyK (E0 g5 noLoop) (callN (E0 g5 noLoop) 1) 56 Try.f56 [r.sv, .i .i64 n] [] (fun x _ => onB (x.cl 0) (x = two (r.jump (r.pl + n)).sv (.i .i64 (r.skN n)))) = (
  Chk (r.valid = true) ∧
  br r.draw
    (Chk (okPlace (IntKind.i64.wrap (r.pl + n))) ∧
      Chk (okPlace r.pl) ∧
        br (decide (r.pl < 82182) && decide (82182 ≤ IntKind.i64.wrap (r.pl + n)))
          (br (decide (r.pl < 89002) && decide (89002 ≤ IntKind.i64.wrap (r.pl + n))) (two (rsv (IntKind.i64.wrap ((IntKind.i64.wrap (r.pl + n)).tdiv 341)) ((IntKind.i64.wrap (r.pl + n)).tmod 341) r.odd false r.nmi r.draw false) (SV.i IntKind.i64 (IntKind.i64.wrap (struck (IntKind.i64.wrap (r.pl + n)) - struck r.pl))) = two (r.jump (r.pl + n)).sv (SV.i IntKind.i64 (r.skN n)))
            (two (rsv (IntKind.i64.wrap ((IntKind.i64.wrap (r.pl + n)).tdiv 341)) ((IntKind.i64.wrap (r.pl + n)).tmod 341) r.odd (!r.hold) r.nmi r.draw false) (SV.i IntKind.i64 (IntKind.i64.wrap (struck (IntKind.i64.wrap (r.pl + n)) - struck r.pl))) = two (r.jump (r.pl + n)).sv (SV.i IntKind.i64 (r.skN n))))
          (br (decide (r.pl < 89002) && decide (89002 ≤ IntKind.i64.wrap (r.pl + n))) (two (rsv (IntKind.i64.wrap ((IntKind.i64.wrap (r.pl + n)).tdiv 341)) ((IntKind.i64.wrap (r.pl + n)).tmod 341) r.odd false r.nmi r.draw r.hold) (SV.i IntKind.i64 (IntKind.i64.wrap (struck (IntKind.i64.wrap (r.pl + n)) - struck r.pl))) = two (r.jump (r.pl + n)).sv (SV.i IntKind.i64 (r.skN n)))
            (two (rsv (IntKind.i64.wrap ((IntKind.i64.wrap (r.pl + n)).tdiv 341)) ((IntKind.i64.wrap (r.pl + n)).tmod 341) r.odd r.vbl r.nmi r.draw r.hold) (SV.i IntKind.i64 (IntKind.i64.wrap (struck (IntKind.i64.wrap (r.pl + n)) - struck r.pl))) = two (r.jump (r.pl + n)).sv (SV.i IntKind.i64 (r.skN n)))))
    (br (decide (r.pl < 82182) && decide (82182 ≤ IntKind.i64.wrap (r.pl + n)))
      (br (decide (r.pl < 89002) && decide (89002 ≤ IntKind.i64.wrap (r.pl + n))) (two (rsv (IntKind.i64.wrap ((IntKind.i64.wrap (r.pl + n)).tdiv 341)) ((IntKind.i64.wrap (r.pl + n)).tmod 341) r.odd false r.nmi r.draw false) (SV.i IntKind.i64 0) = two (r.jump (r.pl + n)).sv (SV.i IntKind.i64 (r.skN n)))
        (two (rsv (IntKind.i64.wrap ((IntKind.i64.wrap (r.pl + n)).tdiv 341)) ((IntKind.i64.wrap (r.pl + n)).tmod 341) r.odd (!r.hold) r.nmi r.draw false) (SV.i IntKind.i64 0) = two (r.jump (r.pl + n)).sv (SV.i IntKind.i64 (r.skN n))))
      (br (decide (r.pl < 89002) && decide (89002 ≤ IntKind.i64.wrap (r.pl + n))) (two (rsv (IntKind.i64.wrap ((IntKind.i64.wrap (r.pl + n)).tdiv 341)) ((IntKind.i64.wrap (r.pl + n)).tmod 341) r.odd false r.nmi r.draw r.hold) (SV.i IntKind.i64 0) = two (r.jump (r.pl + n)).sv (SV.i IntKind.i64 (r.skN n)))
        (two (rsv (IntKind.i64.wrap ((IntKind.i64.wrap (r.pl + n)).tdiv 341)) ((IntKind.i64.wrap (r.pl + n)).tmod 341) r.odd r.vbl r.nmi r.draw r.hold) (SV.i IntKind.i64 0) = two (r.jump (r.pl + n)).sv (SV.i IntKind.i64 (r.skN n)))))) := by kernel_rfl

end Go.Sx
