/-
  SxB19: what a window shows: methods' trees.
  SxB20: what a window shows: bits, specification, the methods' contracts.
  SxB21: Bank: tree.
  SxB22: Bank: contracts.
  SxB23: CHR's slots, mirroring, work RAM: trees.
  SxB24: CHR's slots, mirroring, work RAM: specifications and contracts.
  SxB25: mirroring and work RAM: contracts; ChrBank: tree.
  SxB26: ChrBank, Page, PrgAt, ChrAt: trees.
  SxB27: bits of words; ChrBank, Page, PrgAt, ChrAt: contracts.
  SxB28: ChrAt: tree.
  SxB29: ChrAt: contract; what a board shows: trees.
  SxB30: what a board shows: loop; tree.
  SxB31: what a board shows: contract; Sees.
-/
import Derived.Test.YtiejpbhkchcmkaaDoorBxD
namespace Go.Sx
open Go.Proofs
set_option linter.unusedVariables false
set_option linter.unusedSimpArgs false
set_option maxRecDepth 100000
def onI (Z : Int → Prop) (y : SV) : Prop := match y with
  | .i .i64 n => Z n
  | _ => False
def onKI (Z : Int → Brd → Prop) : SV → Mem → Prop := onK fun y b => match y with
  | .i .i64 n => Z n b
  | _ => False

theorem t31 (b : Brd) (w : Int) (Z : Int → Prop) : (bodyK (EB gV noLoop) (callN (EB gV noLoop) 3) 31 Tryd.f31 [b.sv, .i .i64 w] [] (fun y _ => onB (y.cl 0) (onI Z y))) = (
  Chk b.fit ∧
  br (!b.valid || decide (w < 0) || decide (3 < w)) (Z (-1))
    (br (b.kind == 1)
      (br (b.sub != 5)
        (br (decide (32 < b.prg))
          (br (iand IntKind.u8 b.chrA 16 != 0)
            (br (decide (IntKind.i64.wrap ((IntKind.u8.wrap (b.ctrl.tdiv 4)).tmod 4) < 2)) (br (!decide (b.prg = 0)) (Z ((IntKind.i64.wrap (IntKind.i64.wrap (32 + IntKind.i64.wrap (2 * IntKind.i64.wrap (IntKind.i64.wrap (b.prgR.tmod 16) - (IntKind.i64.wrap (b.prgR.tmod 16)).tmod 2))) + w)).tmod b.prg)) False)
              (br (IntKind.i64.wrap ((IntKind.u8.wrap (b.ctrl.tdiv 4)).tmod 4) == 2 && decide (w < 2)) (br (!decide (b.prg = 0)) (Z ((IntKind.i64.wrap (32 + w)).tmod b.prg)) False)
                (br (IntKind.i64.wrap ((IntKind.u8.wrap (b.ctrl.tdiv 4)).tmod 4) == 2) (br (!decide (b.prg = 0)) (Z ((IntKind.i64.wrap (IntKind.i64.wrap (IntKind.i64.wrap (32 + IntKind.i64.wrap (2 * IntKind.i64.wrap (b.prgR.tmod 16))) + w) - 2)).tmod b.prg)) False)
                  (br (decide (w < 2)) (br (!decide (b.prg = 0)) (Z ((IntKind.i64.wrap (IntKind.i64.wrap (32 + IntKind.i64.wrap (2 * IntKind.i64.wrap (b.prgR.tmod 16))) + w)).tmod b.prg)) False) (br (!decide (b.prg = 0)) (Z ((IntKind.i64.wrap (IntKind.i64.wrap (IntKind.i64.wrap (32 + 30) + w) - 2)).tmod b.prg)) False)))))
            (br (decide (IntKind.i64.wrap ((IntKind.u8.wrap (b.ctrl.tdiv 4)).tmod 4) < 2)) (br (!decide (b.prg = 0)) (Z ((IntKind.i64.wrap (IntKind.i64.wrap (0 + IntKind.i64.wrap (2 * IntKind.i64.wrap (IntKind.i64.wrap (b.prgR.tmod 16) - (IntKind.i64.wrap (b.prgR.tmod 16)).tmod 2))) + w)).tmod b.prg)) False)
              (br (IntKind.i64.wrap ((IntKind.u8.wrap (b.ctrl.tdiv 4)).tmod 4) == 2 && decide (w < 2)) (br (!decide (b.prg = 0)) (Z ((IntKind.i64.wrap (0 + w)).tmod b.prg)) False)
                (br (IntKind.i64.wrap ((IntKind.u8.wrap (b.ctrl.tdiv 4)).tmod 4) == 2) (br (!decide (b.prg = 0)) (Z ((IntKind.i64.wrap (IntKind.i64.wrap (IntKind.i64.wrap (0 + IntKind.i64.wrap (2 * IntKind.i64.wrap (b.prgR.tmod 16))) + w) - 2)).tmod b.prg)) False)
                  (br (decide (w < 2)) (br (!decide (b.prg = 0)) (Z ((IntKind.i64.wrap (IntKind.i64.wrap (0 + IntKind.i64.wrap (2 * IntKind.i64.wrap (b.prgR.tmod 16))) + w)).tmod b.prg)) False) (br (!decide (b.prg = 0)) (Z ((IntKind.i64.wrap (IntKind.i64.wrap (IntKind.i64.wrap (0 + 30) + w) - 2)).tmod b.prg)) False))))))
          (br (decide (IntKind.i64.wrap ((IntKind.u8.wrap (b.ctrl.tdiv 4)).tmod 4) < 2)) (br (!decide (b.prg = 0)) (Z ((IntKind.i64.wrap (IntKind.i64.wrap (0 + IntKind.i64.wrap (2 * IntKind.i64.wrap (IntKind.i64.wrap (b.prgR.tmod 16) - (IntKind.i64.wrap (b.prgR.tmod 16)).tmod 2))) + w)).tmod b.prg)) False)
            (br (IntKind.i64.wrap ((IntKind.u8.wrap (b.ctrl.tdiv 4)).tmod 4) == 2 && decide (w < 2)) (br (!decide (b.prg = 0)) (Z ((IntKind.i64.wrap (0 + w)).tmod b.prg)) False)
              (br (IntKind.i64.wrap ((IntKind.u8.wrap (b.ctrl.tdiv 4)).tmod 4) == 2) (br (!decide (b.prg = 0)) (Z ((IntKind.i64.wrap (IntKind.i64.wrap (IntKind.i64.wrap (0 + IntKind.i64.wrap (2 * IntKind.i64.wrap (b.prgR.tmod 16))) + w) - 2)).tmod b.prg)) False)
                (br (decide (w < 2)) (br (!decide (b.prg = 0)) (Z ((IntKind.i64.wrap (IntKind.i64.wrap (0 + IntKind.i64.wrap (2 * IntKind.i64.wrap (b.prgR.tmod 16))) + w)).tmod b.prg)) False) (br (!decide (b.prg = 0)) (Z ((IntKind.i64.wrap (IntKind.i64.wrap (IntKind.i64.wrap (0 + IntKind.i64.wrap (b.prg - 2)) + w) - 2)).tmod b.prg)) False))))))
        (br (!decide (b.prg = 0)) (Z (w.tmod b.prg)) False))
      (br (b.kind == 2) (br (decide (1 < w)) (br (!decide (b.prg = 0)) (Z ((IntKind.i64.wrap (IntKind.i64.wrap (IntKind.i64.wrap (b.prg - 2) + w) - 2)).tmod b.prg)) False) (br (!decide (b.prg = 0)) (Z ((IntKind.i64.wrap (IntKind.i64.wrap (2 * IntKind.i64.wrap b.latch) + w)).tmod b.prg)) False))
        (br (b.kind == 4)
          (br (w == 1) (br (!decide (b.prg = 0)) (Z ((IntKind.i64.wrap ((b.rs.getD (Int.toNat 7) 0).tmod 64)).tmod b.prg)) False)
            (br (w == 3) (br (!decide (b.prg = 0)) (Z ((IntKind.i64.wrap (b.prg - 1)).tmod b.prg)) False) (br (!(w == 0) == (iand IntKind.u8 b.sel 64 != 0)) (br (!decide (b.prg = 0)) (Z ((IntKind.i64.wrap ((b.rs.getD (Int.toNat 6) 0).tmod 64)).tmod b.prg)) False) (br (!decide (b.prg = 0)) (Z ((IntKind.i64.wrap (b.prg - 2)).tmod b.prg)) False))))
          (br (b.kind == 7) (br (!decide (b.prg = 0)) (Z ((IntKind.i64.wrap (IntKind.i64.wrap (4 * IntKind.i64.wrap (b.latch.tmod 16)) + w)).tmod b.prg)) False) (br (!decide (b.prg = 0)) (Z (w.tmod b.prg)) False)))))) := by kernel_rfl
theorem t108 (b : Brd) (w : Int) (Z : Int → Brd → Prop) : (bodyK (EB gV noLoop) (callN (EB gV noLoop) 1) 108 Tryd.f108 [.ptr 0 [], .i .i64 w] [ki b] (onKI Z)) = (
  br (b.sub == 5) (Z w b)
  (br (decide (32 < b.prg))
    (br (iand IntKind.u8 b.chrA 16 != 0)
      (br (iand IntKind.u8 (ishr IntKind.u8 b.ctrl 2) 3 == 2) (br (decide (w < 2)) (Z (IntKind.i64.wrap (32 + w)) b) (Z (IntKind.i64.wrap (IntKind.i64.wrap (IntKind.i64.wrap (32 + IntKind.i64.wrap (2 * IntKind.i64.wrap (iand IntKind.u8 b.prgR 15))) + w) - 2)) b))
        (br (iand IntKind.u8 (ishr IntKind.u8 b.ctrl 2) 3 == 3) (br (decide (w < 2)) (Z (IntKind.i64.wrap (IntKind.i64.wrap (32 + IntKind.i64.wrap (2 * IntKind.i64.wrap (iand IntKind.u8 b.prgR 15))) + w)) b) (Z (IntKind.i64.wrap (IntKind.i64.wrap (IntKind.i64.wrap (32 + 30) + w) - 2)) b))
          (Z (IntKind.i64.wrap (IntKind.i64.wrap (32 + IntKind.i64.wrap (2 * iandn IntKind.i64 (IntKind.i64.wrap (iand IntKind.u8 b.prgR 15)) 1)) + w)) b)))
      (br (iand IntKind.u8 (ishr IntKind.u8 b.ctrl 2) 3 == 2) (br (decide (w < 2)) (Z (IntKind.i64.wrap (0 + w)) b) (Z (IntKind.i64.wrap (IntKind.i64.wrap (IntKind.i64.wrap (0 + IntKind.i64.wrap (2 * IntKind.i64.wrap (iand IntKind.u8 b.prgR 15))) + w) - 2)) b))
        (br (iand IntKind.u8 (ishr IntKind.u8 b.ctrl 2) 3 == 3) (br (decide (w < 2)) (Z (IntKind.i64.wrap (IntKind.i64.wrap (0 + IntKind.i64.wrap (2 * IntKind.i64.wrap (iand IntKind.u8 b.prgR 15))) + w)) b) (Z (IntKind.i64.wrap (IntKind.i64.wrap (IntKind.i64.wrap (0 + 30) + w) - 2)) b))
          (Z (IntKind.i64.wrap (IntKind.i64.wrap (0 + IntKind.i64.wrap (2 * iandn IntKind.i64 (IntKind.i64.wrap (iand IntKind.u8 b.prgR 15)) 1)) + w)) b))))
    (br (iand IntKind.u8 (ishr IntKind.u8 b.ctrl 2) 3 == 2) (br (decide (w < 2)) (Z (IntKind.i64.wrap (0 + w)) b) (Z (IntKind.i64.wrap (IntKind.i64.wrap (IntKind.i64.wrap (0 + IntKind.i64.wrap (2 * IntKind.i64.wrap (iand IntKind.u8 b.prgR 15))) + w) - 2)) b))
      (br (iand IntKind.u8 (ishr IntKind.u8 b.ctrl 2) 3 == 3) (br (decide (w < 2)) (Z (IntKind.i64.wrap (IntKind.i64.wrap (0 + IntKind.i64.wrap (2 * IntKind.i64.wrap (iand IntKind.u8 b.prgR 15))) + w)) b) (Z (IntKind.i64.wrap (IntKind.i64.wrap (IntKind.i64.wrap (0 + IntKind.i64.wrap (b.prg - 2)) + w) - 2)) b))
        (Z (IntKind.i64.wrap (IntKind.i64.wrap (0 + IntKind.i64.wrap (2 * iandn IntKind.i64 (IntKind.i64.wrap (iand IntKind.u8 b.prgR 15)) 1)) + w)) b))))) := by kernel_rfl
theorem t118 (b : Brd) (w : Int) (Z : Int → Brd → Prop) : (bodyK (EB gV noLoop) (callN (EB gV noLoop) 1) 118 Tryd.f118 [.ptr 0 [], .i .i64 w] [ki b] (onKI Z)) = (
  br (decide (w < 2)) (Z (IntKind.i64.wrap (IntKind.i64.wrap (2 * IntKind.i64.wrap b.latch) + w)) b) (Z (IntKind.i64.wrap (IntKind.i64.wrap (b.prg - 4) + w)) b)) := by kernel_rfl
theorem t127 (b : Brd) (w : Int) (Z : Int → Brd → Prop) : (bodyK (EB gV noLoop) (callN (EB gV noLoop) 1) 127 Tryd.f127 [.ptr 0 [], .i .i64 w] [ki b] (onKI Z)) = (
  br (iand IntKind.u8 b.sel 64 != 0 && w.tmod 2 == 0) (br (ixor IntKind.i64 w 2 == 0) (Z (IntKind.i64.wrap (iand IntKind.u8 (b.rs.getD (Int.toNat 6) 0) 63)) b) (br (ixor IntKind.i64 w 2 == 1) (Z (IntKind.i64.wrap (iand IntKind.u8 (b.rs.getD (Int.toNat 7) 0) 63)) b) (Z (IntKind.i64.wrap (IntKind.i64.wrap (b.prg - 4) + ixor IntKind.i64 w 2)) b)))
  (br (w == 0) (Z (IntKind.i64.wrap (iand IntKind.u8 (b.rs.getD (Int.toNat 6) 0) 63)) b) (br (w == 1) (Z (IntKind.i64.wrap (iand IntKind.u8 (b.rs.getD (Int.toNat 7) 0) 63)) b) (Z (IntKind.i64.wrap (IntKind.i64.wrap (b.prg - 4) + w)) b)))) := by kernel_rfl
theorem t135 (b : Brd) (w : Int) (Z : Int → Brd → Prop) : (bodyK (EB gV noLoop) (callN (EB gV noLoop) 1) 135 Tryd.f135 [.ptr 0 [], .i .i64 w] [ki b] (onKI Z)) = (
  Z (IntKind.i64.wrap (IntKind.i64.wrap (4 * IntKind.i64.wrap (iand IntKind.u8 b.latch 15)) + w)) b) := by kernel_rfl

end Go.Sx

namespace Go.Sx
open Go.Proofs
set_option linter.unusedVariables false
set_option linter.unusedSimpArgs false
set_option maxRecDepth 100000

/-! Bits of a byte. -/
theorem byte_all {p : Int → Prop} (h : ∀ x : Fin 256, p x.val) {n : Int} (hn : u8 n) : p n := by
  unfold u8 at hn
  have := h ⟨n.toNat, by omega⟩
  simp only [Int.toNat_of_nonneg hn.1] at this
  exact this
theorem and15 {x : Int} (h : u8 x) : iand .u8 x 15 = x % 16 := byte_all (p := fun x => iand .u8 x 15 = x % 16) (by decide +kernel) h
theorem and63 {x : Int} (h : u8 x) : iand .u8 x 63 = x % 64 := byte_all (p := fun x => iand .u8 x 63 = x % 64) (by decide +kernel) h
theorem shr2and3 {x : Int} (h : u8 x) : iand .u8 (ishr .u8 x 2) 3 = x / 4 % 4 := byte_all (p := fun x => iand .u8 (ishr .u8 x 2) 3 = x / 4 % 4) (by decide +kernel) h
theorem andn1 {x : Int} (h : u8 x) : iandn .i64 x 1 = x - x % 2 := byte_all (p := fun x => iandn .i64 x 1 = x - x % 2) (by decide +kernel) h
theorem xor2_0 : ixor .i64 0 2 = 2 := by decide +kernel
theorem xor2_2 : ixor .i64 2 2 = 0 := by decide +kernel

structure okWin (b : Brd) (w : Int) : Prop where
  fit : b.fit
  p0 : 2 ≤ b.prg
  p1 : b.prg ≤ 128
  w0 : 0 ≤ w
  w1 : w ≤ 3
theorem rs_u8 {b : Brd} (h : b.fit) {i : Nat} (hi : i < 8) : u8 (b.rs.getD i 0) := by
  have hl := h.rsL
  rw [List.getD_eq_getElem?_getD, List.getElem?_eq_getElem (by omega)]
  exact h.rs _ (List.getElem_mem _)

/-- The bank, not reduced, of an MMC1's window. -/
def Brd.mmc1B (b : Brd) (w : Int) : Int :=
  let n := b.prgR % 16
  let mode := b.ctrl / 4 % 4
  let outer := if 32 < b.prg ∧ iand .u8 b.chrA 16 ≠ 0 then 32 else 0
  let last := if 32 < b.prg then 30 else b.prg - 2
  if b.sub = 5 then w
  else if mode = 2 then (if w < 2 then outer + w else outer + 2 * n + w - 2)
  else if mode = 3 then (if w < 2 then outer + 2 * n + w else outer + last + w - 2)
  else outer + 2 * (n - n % 2) + w
def Brd.uxB (b : Brd) (w : Int) : Int := if w < 2 then 2 * b.latch + w else b.prg - 4 + w
def Brd.mmc3B (b : Brd) (w : Int) : Int :=
  if w = 1 then b.rs.getD 7 0 % 64 else if w = 3 then b.prg - 1 else if (w = 0 ∧ iand .u8 b.sel 64 = 0) ∨ (w = 2 ∧ iand .u8 b.sel 64 ≠ 0) then b.rs.getD 6 0 % 64 else b.prg - 2
def Brd.axB (b : Brd) (w : Int) : Int := 4 * (b.latch % 16) + w
def Brd.bankR (b : Brd) (w : Int) : Int :=
  if b.kind = 1 then b.mmc1B w else if b.kind = 2 then b.uxB w else if b.kind = 4 then b.mmc3B w else if b.kind = 7 then b.axB w else w
/-- Bank. -/
def Brd.bankN (b : Brd) (w : Int) : Int := if b.valid = true ∧ 0 ≤ w ∧ w ≤ 3 then b.bankR w % b.prg else -1

theorem p118 (b : Brd) (w : Int) (h : okWin b w) : Chk (bodyK (EB gV noLoop) (callN (EB gV noLoop) 1) 118 Tryd.f118 (.ptr 0 [] :: eI w) [ki b] (onKI fun n b' => n = b.uxB w ∧ b' = b)) := by
  constructor
  show bodyK (EB gV noLoop) (callN (EB gV noLoop) 1) 118 Tryd.f118 [.ptr 0 [], .i .i64 w] [ki b] (onKI fun n b' => n = b.uxB w ∧ b' = b)
  rw [t118]
  obtain ⟨hf, p0, p1, w0, w1⟩ := h
  have hl := hf.latch
  unfold u8 at hl
  unfold Brd.uxB
  simp (disch := omega) only [IntWalk.i64_in]
  refine br_in (fun c => ⟨?_, trivial⟩) (fun c => ⟨?_, trivial⟩) <;> simp at c
  · rw [if_pos c]
  · rw [if_neg (by omega)]
theorem p135 (b : Brd) (w : Int) (h : okWin b w) : Chk (bodyK (EB gV noLoop) (callN (EB gV noLoop) 1) 135 Tryd.f135 (.ptr 0 [] :: eI w) [ki b] (onKI fun n b' => n = b.axB w ∧ b' = b)) := by
  constructor
  show bodyK (EB gV noLoop) (callN (EB gV noLoop) 1) 135 Tryd.f135 [.ptr 0 [], .i .i64 w] [ki b] (onKI fun n b' => n = b.axB w ∧ b' = b)
  rw [t135]
  obtain ⟨hf, p0, p1, w0, w1⟩ := h
  have hl := hf.latch
  have e := and15 hl
  unfold u8 at hl
  unfold Brd.axB
  rw [e]
  simp (disch := omega) only [IntWalk.i64_in]
  simp
theorem p108 (b : Brd) (w : Int) (h : okWin b w) : Chk (bodyK (EB gV noLoop) (callN (EB gV noLoop) 1) 108 Tryd.f108 (.ptr 0 [] :: eI w) [ki b] (onKI fun n b' => n = b.mmc1B w ∧ b' = b)) := by
  constructor
  show bodyK (EB gV noLoop) (callN (EB gV noLoop) 1) 108 Tryd.f108 [.ptr 0 [], .i .i64 w] [ki b] (onKI fun n b' => n = b.mmc1B w ∧ b' = b)
  rw [t108]
  obtain ⟨hf, p0, p1, w0, w1⟩ := h
  have hl := hf.prgR
  have e1 := and15 hf.prgR
  have e2 := shr2and3 hf.ctrl
  have e3 : IntKind.i64.wrap (b.prgR % 16) = b.prgR % 16 := IntWalk.i64_in _ (by omega)
  have e4 : iandn .i64 (b.prgR % 16) 1 = b.prgR % 16 - b.prgR % 16 % 2 := andn1 ⟨by omega, by omega⟩
  unfold Brd.mmc1B
  simp only [e1, e2, e3, e4]
  have r1 : 0 ≤ b.prgR % 16 ∧ b.prgR % 16 < 16 := by omega
  simp (disch := omega) only [IntWalk.i64_in]
  generalize b.prgR % 16 = n at *
  generalize b.ctrl / 4 % 4 = m at *
  generalize iand .u8 b.chrA 16 = q at *
  clear hf e1 e2 e3 e4 hl
  repeat' (first | refine br_in (fun _ => ?_) (fun _ => ?_) | refine And.intro ?_ trivial)
  all_goals grind
theorem p127 (b : Brd) (w : Int) (h : okWin b w) : Chk (bodyK (EB gV noLoop) (callN (EB gV noLoop) 1) 127 Tryd.f127 (.ptr 0 [] :: eI w) [ki b] (onKI fun n b' => n = b.mmc3B w ∧ b' = b)) := by
  constructor
  show bodyK (EB gV noLoop) (callN (EB gV noLoop) 1) 127 Tryd.f127 [.ptr 0 [], .i .i64 w] [ki b] (onKI fun n b' => n = b.mmc3B w ∧ b' = b)
  rw [t127]
  obtain ⟨hf, p0, p1, w0, w1⟩ := h
  have e6 := and63 (rs_u8 hf (i := 6) (by omega))
  have e7 := and63 (rs_u8 hf (i := 7) (by omega))
  have k6 : (6 : Int).toNat = 6 := rfl
  have k7 : (7 : Int).toNat = 7 := rfl
  unfold Brd.mmc3B
  simp only [k6, k7, e6, e7]
  have r6 : IntKind.i64.wrap (b.rs.getD 6 0 % 64) = b.rs.getD 6 0 % 64 := IntWalk.i64_in _ (by omega)
  have r7 : IntKind.i64.wrap (b.rs.getD 7 0 % 64) = b.rs.getD 7 0 % 64 := IntWalk.i64_in _ (by omega)
  simp only [r6, r7]
  generalize b.rs.getD 6 0 % 64 = s6 at *
  generalize b.rs.getD 7 0 % 64 = s7 at *
  generalize iand .u8 b.sel 64 = q at *
  clear hf e6 e7 r6 r7
  have hw : w = 0 ∨ w = 1 ∨ w = 2 ∨ w = 3 := by omega
  rcases hw with rfl | rfl | rfl | rfl <;> simp only [xor2_0, xor2_2, show Int.tmod 0 2 = 0 by decide, show Int.tmod 1 2 = 1 by decide, show Int.tmod 2 2 = 0 by decide, show Int.tmod 3 2 = 1 by decide] <;>
    simp (disch := omega) only [IntWalk.i64_in] <;>
    (repeat' (first | refine br_in (fun _ => ?_) (fun _ => ?_) | refine And.intro ?_ trivial)) <;> grind

theorem onKI_out {Z : Int → Brd → Prop} {x : SV} {M : Mem} (h : onKI Z x M) : ∃ n b rest, x = .i .i64 n ∧ M = ki b :: rest ∧ Z n b := by
  obtain ⟨b, rest, e, hz⟩ := onK_out h
  split at hz
  · exact ⟨_, b, rest, rfl, e, hz⟩
  · exact hz.elim
/-- A method that tells a number and changes nothing. -/
theorem EBget {gam : List (Nat × Con)} {loop : List (Nat × Nat × LCon)} (hg : GamOK (EB gam loop)) (hlo : LoopsOK (EB gam loop)) (n : Nat) {f : FuncId} {fn : Func} (hfn : Tryd.prog.funcs[f]? = some fn) {α : Type} {dec : List SV → Option α}
    {enc : α → List SV} (hd : ∀ l a, dec l = some a → l = enc a) {p : Brd → α → Prop} {F : Brd → α → Int}
    (h : ∀ b a, p b a → Chk (bodyK (EB gam loop) (callN (EB gam loop) n) f fn (.ptr 0 [] :: enc a) [ki b] (onKI fun x b' => x = F b a ∧ b' = b))) : ConOK (EB gam loop) f (.mth (mthD dec p (fun b a => .i .i64 (F b a)) (fun b _ => b))) := by
  refine con_mthQ (EB_ok gam loop) hg hlo n hfn (fun t args => mthD_det) fun t args K hp => ?_
  unfold mthD at hp
  split at hp
  · rename_i b a hb ha
    obtain ⟨hp1, hp2⟩ := hp
    rw [kiOf_some hb, hd _ _ ha]
    refine ⟨_, fun r M hq => ?_, (h b a hp1.ok).ok⟩
    obtain ⟨m, b', rest, rfl, e1, rfl, rfl⟩ := onKI_out hq
    exact ⟨_, rest, e1, rfl, rfl, hp2⟩
  · exact hp.elim
def cWin (F : Brd → Int → Int) : Con := .mth (mthD dI okWin (fun b w => .i .i64 (F b w)) (fun b _ => b))
theorem con108 : ConOK (EB gV noLoop) 108 (cWin Brd.mmc1B) := EBget (enc := eI) (p := okWin) (F := Brd.mmc1B) gV_ok (noLoops _) 1 Tryd.func108 dI_ok p108
theorem con118 : ConOK (EB gV noLoop) 118 (cWin Brd.uxB) := EBget (enc := eI) (p := okWin) (F := Brd.uxB) gV_ok (noLoops _) 1 Tryd.func118 dI_ok p118
theorem con127 : ConOK (EB gV noLoop) 127 (cWin Brd.mmc3B) := EBget (enc := eI) (p := okWin) (F := Brd.mmc3B) gV_ok (noLoops _) 1 Tryd.func127 dI_ok p127
theorem con135 : ConOK (EB gV noLoop) 135 (cWin Brd.axB) := EBget (enc := eI) (p := okWin) (F := Brd.axB) gV_ok (noLoops _) 1 Tryd.func135 dI_ok p135
end Go.Sx

namespace Go.Sx
open Go.Proofs
set_option linter.unusedVariables false
set_option linter.unusedSimpArgs false
set_option maxRecDepth 100000
def gM : List (Nat × Con) := (108, cWin Brd.mmc1B) :: (118, cWin Brd.uxB) :: (127, cWin Brd.mmc3B) :: (135, cWin Brd.axB) :: gV
theorem gM_ok : GamOK (EB gM noLoop) := gam_ok rfl ⟨con108.of, con118.of, con127.of, con135.of, con27.of, con28.of, con133.of, con25.of, con26.of, con129.of, con56.of, con131.of, con24.of, con19.of, con20.of, con21.of, con41.of, con22.of, con23.of, con50.of, con51.of, con52.of, con53.of, trivial⟩

theorem t30 (b : Brd) (w : Int) (Z : Int → Prop) : (bodyK (EB gM noLoop) (callN (EB gM noLoop) 3) 30 Tryd.f30 [b.sv, .i .i64 w] [] (fun y _ => onB (y.cl 0) (onI Z y))) = (
  br (!(decide (w < 0) || decide (3 < w)) && true)
  (Chk b.fit ∧
    br (decide (w < 0) || decide (3 < w) || !b.valid) (Z (-1))
      (br (b.kind == 1)
        (Chk (okWin b w) ∧
          br (!decide (b.prg = 0))
            (SV.i IntKind.i64 b.prg = SV.i IntKind.i64 b.prg ∧
              SV.i IntKind.i64 b.prg = SV.i IntKind.i64 b.prg ∧
                SV.agg
                      (SVs.cons (SV.i IntKind.i64 b.kind)
                        (SVs.cons (SV.i IntKind.i64 b.sub)
                          (SVs.cons (SV.i IntKind.u8 b.hard)
                            (SVs.cons (SV.b b.work)
                              (SVs.cons (SV.i IntKind.i64 b.prg)
                                (SVs.cons (SV.i IntKind.i64 b.chr)
                                  (SVs.cons (SV.b b.cram)
                                    (SVs.cons (SV.i IntKind.u8 b.shift)
                                      (SVs.cons (SV.i IntKind.u8 b.ctrl)
                                        (SVs.cons (SV.i IntKind.u8 b.chrA)
                                          (SVs.cons (SV.i IntKind.u8 b.chrB)
                                            (SVs.cons (SV.i IntKind.u8 b.prgR)
                                              (SVs.cons (SV.i IntKind.i64 b.last)
                                                (SVs.cons (SV.i IntKind.u8 b.latch)
                                                  (SVs.cons (SV.i IntKind.u8 b.sel)
                                                    (SVs.cons (SV.arr IntKind.u8 8 b.rs) (SVs.cons (SV.i IntKind.u8 b.turn) (SVs.cons (SV.i IntKind.u8 b.guard) (SVs.cons (SV.i IntKind.u8 b.iLatch) (SVs.cons (SV.i IntKind.u8 b.iCount) (SVs.cons (SV.b b.iLoad) (SVs.cons (SV.b b.iOn) (SVs.cons (SV.b b.irq) (SVs.cons (SV.i IntKind.i64 b.epoch) SVs.nil)))))))))))))))))))))))) =
                    b.sv ∧
                  SV.agg
                        (SVs.cons (SV.i IntKind.i64 b.kind)
                          (SVs.cons (SV.i IntKind.i64 b.sub)
                            (SVs.cons (SV.i IntKind.u8 b.hard)
                              (SVs.cons (SV.b b.work)
                                (SVs.cons (SV.i IntKind.i64 b.prg)
                                  (SVs.cons (SV.i IntKind.i64 b.chr)
                                    (SVs.cons (SV.b b.cram)
                                      (SVs.cons (SV.i IntKind.u8 b.shift)
                                        (SVs.cons (SV.i IntKind.u8 b.ctrl)
                                          (SVs.cons (SV.i IntKind.u8 b.chrA)
                                            (SVs.cons (SV.i IntKind.u8 b.chrB)
                                              (SVs.cons (SV.i IntKind.u8 b.prgR)
                                                (SVs.cons (SV.i IntKind.i64 b.last)
                                                  (SVs.cons (SV.i IntKind.u8 b.latch)
                                                    (SVs.cons (SV.i IntKind.u8 b.sel)
                                                      (SVs.cons (SV.arr IntKind.u8 8 b.rs) (SVs.cons (SV.i IntKind.u8 b.turn) (SVs.cons (SV.i IntKind.u8 b.guard) (SVs.cons (SV.i IntKind.u8 b.iLatch) (SVs.cons (SV.i IntKind.u8 b.iCount) (SVs.cons (SV.b b.iLoad) (SVs.cons (SV.b b.iOn) (SVs.cons (SV.b b.irq) (SVs.cons (SV.i IntKind.i64 b.epoch) SVs.nil)))))))))))))))))))))))) =
                      b.sv ∧
                    Z ((b.mmc1B w).tmod b.prg))
            False)
        (br (b.kind == 2)
          (Chk (okWin b w) ∧
            br (!decide (b.prg = 0))
              (SV.i IntKind.i64 b.prg = SV.i IntKind.i64 b.prg ∧
                SV.i IntKind.i64 b.prg = SV.i IntKind.i64 b.prg ∧
                  SV.agg
                        (SVs.cons (SV.i IntKind.i64 b.kind)
                          (SVs.cons (SV.i IntKind.i64 b.sub)
                            (SVs.cons (SV.i IntKind.u8 b.hard)
                              (SVs.cons (SV.b b.work)
                                (SVs.cons (SV.i IntKind.i64 b.prg)
                                  (SVs.cons (SV.i IntKind.i64 b.chr)
                                    (SVs.cons (SV.b b.cram)
                                      (SVs.cons (SV.i IntKind.u8 b.shift)
                                        (SVs.cons (SV.i IntKind.u8 b.ctrl)
                                          (SVs.cons (SV.i IntKind.u8 b.chrA)
                                            (SVs.cons (SV.i IntKind.u8 b.chrB)
                                              (SVs.cons (SV.i IntKind.u8 b.prgR)
                                                (SVs.cons (SV.i IntKind.i64 b.last)
                                                  (SVs.cons (SV.i IntKind.u8 b.latch)
                                                    (SVs.cons (SV.i IntKind.u8 b.sel)
                                                      (SVs.cons (SV.arr IntKind.u8 8 b.rs) (SVs.cons (SV.i IntKind.u8 b.turn) (SVs.cons (SV.i IntKind.u8 b.guard) (SVs.cons (SV.i IntKind.u8 b.iLatch) (SVs.cons (SV.i IntKind.u8 b.iCount) (SVs.cons (SV.b b.iLoad) (SVs.cons (SV.b b.iOn) (SVs.cons (SV.b b.irq) (SVs.cons (SV.i IntKind.i64 b.epoch) SVs.nil)))))))))))))))))))))))) =
                      b.sv ∧
                    SV.agg
                          (SVs.cons (SV.i IntKind.i64 b.kind)
                            (SVs.cons (SV.i IntKind.i64 b.sub)
                              (SVs.cons (SV.i IntKind.u8 b.hard)
                                (SVs.cons (SV.b b.work)
                                  (SVs.cons (SV.i IntKind.i64 b.prg)
                                    (SVs.cons (SV.i IntKind.i64 b.chr)
                                      (SVs.cons (SV.b b.cram)
                                        (SVs.cons (SV.i IntKind.u8 b.shift)
                                          (SVs.cons (SV.i IntKind.u8 b.ctrl)
                                            (SVs.cons (SV.i IntKind.u8 b.chrA)
                                              (SVs.cons (SV.i IntKind.u8 b.chrB)
                                                (SVs.cons (SV.i IntKind.u8 b.prgR)
                                                  (SVs.cons (SV.i IntKind.i64 b.last)
                                                    (SVs.cons (SV.i IntKind.u8 b.latch)
                                                      (SVs.cons (SV.i IntKind.u8 b.sel)
                                                        (SVs.cons (SV.arr IntKind.u8 8 b.rs) (SVs.cons (SV.i IntKind.u8 b.turn) (SVs.cons (SV.i IntKind.u8 b.guard) (SVs.cons (SV.i IntKind.u8 b.iLatch) (SVs.cons (SV.i IntKind.u8 b.iCount) (SVs.cons (SV.b b.iLoad) (SVs.cons (SV.b b.iOn) (SVs.cons (SV.b b.irq) (SVs.cons (SV.i IntKind.i64 b.epoch) SVs.nil)))))))))))))))))))))))) =
                        b.sv ∧
                      Z ((b.uxB w).tmod b.prg))
              False)
          (br (b.kind == 3)
            (br (!decide (b.prg = 0))
              (SV.i IntKind.i64 b.prg = SV.i IntKind.i64 b.prg ∧
                SV.i IntKind.i64 b.prg = SV.i IntKind.i64 b.prg ∧
                  SV.agg
                        (SVs.cons (SV.i IntKind.i64 b.kind)
                          (SVs.cons (SV.i IntKind.i64 b.sub)
                            (SVs.cons (SV.i IntKind.u8 b.hard)
                              (SVs.cons (SV.b b.work)
                                (SVs.cons (SV.i IntKind.i64 b.prg)
                                  (SVs.cons (SV.i IntKind.i64 b.chr)
                                    (SVs.cons (SV.b b.cram)
                                      (SVs.cons (SV.i IntKind.u8 b.shift)
                                        (SVs.cons (SV.i IntKind.u8 b.ctrl)
                                          (SVs.cons (SV.i IntKind.u8 b.chrA)
                                            (SVs.cons (SV.i IntKind.u8 b.chrB)
                                              (SVs.cons (SV.i IntKind.u8 b.prgR)
                                                (SVs.cons (SV.i IntKind.i64 b.last)
                                                  (SVs.cons (SV.i IntKind.u8 b.latch)
                                                    (SVs.cons (SV.i IntKind.u8 b.sel)
                                                      (SVs.cons (SV.arr IntKind.u8 8 b.rs) (SVs.cons (SV.i IntKind.u8 b.turn) (SVs.cons (SV.i IntKind.u8 b.guard) (SVs.cons (SV.i IntKind.u8 b.iLatch) (SVs.cons (SV.i IntKind.u8 b.iCount) (SVs.cons (SV.b b.iLoad) (SVs.cons (SV.b b.iOn) (SVs.cons (SV.b b.irq) (SVs.cons (SV.i IntKind.i64 b.epoch) SVs.nil)))))))))))))))))))))))) =
                      b.sv ∧
                    SV.agg
                          (SVs.cons (SV.i IntKind.i64 b.kind)
                            (SVs.cons (SV.i IntKind.i64 b.sub)
                              (SVs.cons (SV.i IntKind.u8 b.hard)
                                (SVs.cons (SV.b b.work)
                                  (SVs.cons (SV.i IntKind.i64 b.prg)
                                    (SVs.cons (SV.i IntKind.i64 b.chr)
                                      (SVs.cons (SV.b b.cram)
                                        (SVs.cons (SV.i IntKind.u8 b.shift)
                                          (SVs.cons (SV.i IntKind.u8 b.ctrl)
                                            (SVs.cons (SV.i IntKind.u8 b.chrA)
                                              (SVs.cons (SV.i IntKind.u8 b.chrB)
                                                (SVs.cons (SV.i IntKind.u8 b.prgR)
                                                  (SVs.cons (SV.i IntKind.i64 b.last)
                                                    (SVs.cons (SV.i IntKind.u8 b.latch)
                                                      (SVs.cons (SV.i IntKind.u8 b.sel)
                                                        (SVs.cons (SV.arr IntKind.u8 8 b.rs) (SVs.cons (SV.i IntKind.u8 b.turn) (SVs.cons (SV.i IntKind.u8 b.guard) (SVs.cons (SV.i IntKind.u8 b.iLatch) (SVs.cons (SV.i IntKind.u8 b.iCount) (SVs.cons (SV.b b.iLoad) (SVs.cons (SV.b b.iOn) (SVs.cons (SV.b b.irq) (SVs.cons (SV.i IntKind.i64 b.epoch) SVs.nil)))))))))))))))))))))))) =
                        b.sv ∧
                      Z (w.tmod b.prg))
              False)
            (br (b.kind == 4)
              (Chk (okWin b w) ∧
                br (!decide (b.prg = 0))
                  (SV.i IntKind.i64 b.prg = SV.i IntKind.i64 b.prg ∧
                    SV.i IntKind.i64 b.prg = SV.i IntKind.i64 b.prg ∧
                      SV.agg
                            (SVs.cons (SV.i IntKind.i64 b.kind)
                              (SVs.cons (SV.i IntKind.i64 b.sub)
                                (SVs.cons (SV.i IntKind.u8 b.hard)
                                  (SVs.cons (SV.b b.work)
                                    (SVs.cons (SV.i IntKind.i64 b.prg)
                                      (SVs.cons (SV.i IntKind.i64 b.chr)
                                        (SVs.cons (SV.b b.cram)
                                          (SVs.cons (SV.i IntKind.u8 b.shift)
                                            (SVs.cons (SV.i IntKind.u8 b.ctrl)
                                              (SVs.cons (SV.i IntKind.u8 b.chrA)
                                                (SVs.cons (SV.i IntKind.u8 b.chrB)
                                                  (SVs.cons (SV.i IntKind.u8 b.prgR)
                                                    (SVs.cons (SV.i IntKind.i64 b.last)
                                                      (SVs.cons (SV.i IntKind.u8 b.latch)
                                                        (SVs.cons (SV.i IntKind.u8 b.sel)
                                                          (SVs.cons (SV.arr IntKind.u8 8 b.rs) (SVs.cons (SV.i IntKind.u8 b.turn) (SVs.cons (SV.i IntKind.u8 b.guard) (SVs.cons (SV.i IntKind.u8 b.iLatch) (SVs.cons (SV.i IntKind.u8 b.iCount) (SVs.cons (SV.b b.iLoad) (SVs.cons (SV.b b.iOn) (SVs.cons (SV.b b.irq) (SVs.cons (SV.i IntKind.i64 b.epoch) SVs.nil)))))))))))))))))))))))) =
                          b.sv ∧
                        SV.agg
                              (SVs.cons (SV.i IntKind.i64 b.kind)
                                (SVs.cons (SV.i IntKind.i64 b.sub)
                                  (SVs.cons (SV.i IntKind.u8 b.hard)
                                    (SVs.cons (SV.b b.work)
                                      (SVs.cons (SV.i IntKind.i64 b.prg)
                                        (SVs.cons (SV.i IntKind.i64 b.chr)
                                          (SVs.cons (SV.b b.cram)
                                            (SVs.cons (SV.i IntKind.u8 b.shift)
                                              (SVs.cons (SV.i IntKind.u8 b.ctrl)
                                                (SVs.cons (SV.i IntKind.u8 b.chrA)
                                                  (SVs.cons (SV.i IntKind.u8 b.chrB)
                                                    (SVs.cons (SV.i IntKind.u8 b.prgR)
                                                      (SVs.cons (SV.i IntKind.i64 b.last)
                                                        (SVs.cons (SV.i IntKind.u8 b.latch)
                                                          (SVs.cons (SV.i IntKind.u8 b.sel)
                                                            (SVs.cons (SV.arr IntKind.u8 8 b.rs) (SVs.cons (SV.i IntKind.u8 b.turn) (SVs.cons (SV.i IntKind.u8 b.guard) (SVs.cons (SV.i IntKind.u8 b.iLatch) (SVs.cons (SV.i IntKind.u8 b.iCount) (SVs.cons (SV.b b.iLoad) (SVs.cons (SV.b b.iOn) (SVs.cons (SV.b b.irq) (SVs.cons (SV.i IntKind.i64 b.epoch) SVs.nil)))))))))))))))))))))))) =
                            b.sv ∧
                          Z ((b.mmc3B w).tmod b.prg))
                  False)
              (br (b.kind == 7)
                (Chk (okWin b w) ∧
                  br (!decide (b.prg = 0))
                    (SV.i IntKind.i64 b.prg = SV.i IntKind.i64 b.prg ∧
                      SV.i IntKind.i64 b.prg = SV.i IntKind.i64 b.prg ∧
                        SV.agg
                              (SVs.cons (SV.i IntKind.i64 b.kind)
                                (SVs.cons (SV.i IntKind.i64 b.sub)
                                  (SVs.cons (SV.i IntKind.u8 b.hard)
                                    (SVs.cons (SV.b b.work)
                                      (SVs.cons (SV.i IntKind.i64 b.prg)
                                        (SVs.cons (SV.i IntKind.i64 b.chr)
                                          (SVs.cons (SV.b b.cram)
                                            (SVs.cons (SV.i IntKind.u8 b.shift)
                                              (SVs.cons (SV.i IntKind.u8 b.ctrl)
                                                (SVs.cons (SV.i IntKind.u8 b.chrA)
                                                  (SVs.cons (SV.i IntKind.u8 b.chrB)
                                                    (SVs.cons (SV.i IntKind.u8 b.prgR)
                                                      (SVs.cons (SV.i IntKind.i64 b.last)
                                                        (SVs.cons (SV.i IntKind.u8 b.latch)
                                                          (SVs.cons (SV.i IntKind.u8 b.sel)
                                                            (SVs.cons (SV.arr IntKind.u8 8 b.rs) (SVs.cons (SV.i IntKind.u8 b.turn) (SVs.cons (SV.i IntKind.u8 b.guard) (SVs.cons (SV.i IntKind.u8 b.iLatch) (SVs.cons (SV.i IntKind.u8 b.iCount) (SVs.cons (SV.b b.iLoad) (SVs.cons (SV.b b.iOn) (SVs.cons (SV.b b.irq) (SVs.cons (SV.i IntKind.i64 b.epoch) SVs.nil)))))))))))))))))))))))) =
                            b.sv ∧
                          SV.agg
                                (SVs.cons (SV.i IntKind.i64 b.kind)
                                  (SVs.cons (SV.i IntKind.i64 b.sub)
                                    (SVs.cons (SV.i IntKind.u8 b.hard)
                                      (SVs.cons (SV.b b.work)
                                        (SVs.cons (SV.i IntKind.i64 b.prg)
                                          (SVs.cons (SV.i IntKind.i64 b.chr)
                                            (SVs.cons (SV.b b.cram)
                                              (SVs.cons (SV.i IntKind.u8 b.shift)
                                                (SVs.cons (SV.i IntKind.u8 b.ctrl)
                                                  (SVs.cons (SV.i IntKind.u8 b.chrA)
                                                    (SVs.cons (SV.i IntKind.u8 b.chrB)
                                                      (SVs.cons (SV.i IntKind.u8 b.prgR)
                                                        (SVs.cons (SV.i IntKind.i64 b.last)
                                                          (SVs.cons (SV.i IntKind.u8 b.latch)
                                                            (SVs.cons (SV.i IntKind.u8 b.sel)
                                                              (SVs.cons (SV.arr IntKind.u8 8 b.rs) (SVs.cons (SV.i IntKind.u8 b.turn) (SVs.cons (SV.i IntKind.u8 b.guard) (SVs.cons (SV.i IntKind.u8 b.iLatch) (SVs.cons (SV.i IntKind.u8 b.iCount) (SVs.cons (SV.b b.iLoad) (SVs.cons (SV.b b.iOn) (SVs.cons (SV.b b.irq) (SVs.cons (SV.i IntKind.i64 b.epoch) SVs.nil)))))))))))))))))))))))) =
                              b.sv ∧
                            Z ((b.axB w).tmod b.prg))
                    False)
                (br (!decide (b.prg = 0))
                  (SV.i IntKind.i64 b.prg = SV.i IntKind.i64 b.prg ∧
                    SV.i IntKind.i64 b.prg = SV.i IntKind.i64 b.prg ∧
                      SV.agg
                            (SVs.cons (SV.i IntKind.i64 b.kind)
                              (SVs.cons (SV.i IntKind.i64 b.sub)
                                (SVs.cons (SV.i IntKind.u8 b.hard)
                                  (SVs.cons (SV.b b.work)
                                    (SVs.cons (SV.i IntKind.i64 b.prg)
                                      (SVs.cons (SV.i IntKind.i64 b.chr)
                                        (SVs.cons (SV.b b.cram)
                                          (SVs.cons (SV.i IntKind.u8 b.shift)
                                            (SVs.cons (SV.i IntKind.u8 b.ctrl)
                                              (SVs.cons (SV.i IntKind.u8 b.chrA)
                                                (SVs.cons (SV.i IntKind.u8 b.chrB)
                                                  (SVs.cons (SV.i IntKind.u8 b.prgR)
                                                    (SVs.cons (SV.i IntKind.i64 b.last)
                                                      (SVs.cons (SV.i IntKind.u8 b.latch)
                                                        (SVs.cons (SV.i IntKind.u8 b.sel)
                                                          (SVs.cons (SV.arr IntKind.u8 8 b.rs) (SVs.cons (SV.i IntKind.u8 b.turn) (SVs.cons (SV.i IntKind.u8 b.guard) (SVs.cons (SV.i IntKind.u8 b.iLatch) (SVs.cons (SV.i IntKind.u8 b.iCount) (SVs.cons (SV.b b.iLoad) (SVs.cons (SV.b b.iOn) (SVs.cons (SV.b b.irq) (SVs.cons (SV.i IntKind.i64 b.epoch) SVs.nil)))))))))))))))))))))))) =
                          b.sv ∧
                        SV.agg
                              (SVs.cons (SV.i IntKind.i64 b.kind)
                                (SVs.cons (SV.i IntKind.i64 b.sub)
                                  (SVs.cons (SV.i IntKind.u8 b.hard)
                                    (SVs.cons (SV.b b.work)
                                      (SVs.cons (SV.i IntKind.i64 b.prg)
                                        (SVs.cons (SV.i IntKind.i64 b.chr)
                                          (SVs.cons (SV.b b.cram)
                                            (SVs.cons (SV.i IntKind.u8 b.shift)
                                              (SVs.cons (SV.i IntKind.u8 b.ctrl)
                                                (SVs.cons (SV.i IntKind.u8 b.chrA)
                                                  (SVs.cons (SV.i IntKind.u8 b.chrB)
                                                    (SVs.cons (SV.i IntKind.u8 b.prgR)
                                                      (SVs.cons (SV.i IntKind.i64 b.last)
                                                        (SVs.cons (SV.i IntKind.u8 b.latch)
                                                          (SVs.cons (SV.i IntKind.u8 b.sel)
                                                            (SVs.cons (SV.arr IntKind.u8 8 b.rs) (SVs.cons (SV.i IntKind.u8 b.turn) (SVs.cons (SV.i IntKind.u8 b.guard) (SVs.cons (SV.i IntKind.u8 b.iLatch) (SVs.cons (SV.i IntKind.u8 b.iCount) (SVs.cons (SV.b b.iLoad) (SVs.cons (SV.b b.iOn) (SVs.cons (SV.b b.irq) (SVs.cons (SV.i IntKind.i64 b.epoch) SVs.nil)))))))))))))))))))))))) =
                            b.sv ∧
                          Z (w.tmod b.prg))
                  False)))))))
  (br (decide (w < 0) || decide (3 < w) || !false) (Z (-1))
    (br (b.kind == 1)
      (Chk (okWin b w) ∧
        br (!decide (b.prg = 0))
          (SV.i IntKind.i64 b.prg = SV.i IntKind.i64 b.prg ∧
            SV.i IntKind.i64 b.prg = SV.i IntKind.i64 b.prg ∧
              SV.agg
                    (SVs.cons (SV.i IntKind.i64 b.kind)
                      (SVs.cons (SV.i IntKind.i64 b.sub)
                        (SVs.cons (SV.i IntKind.u8 b.hard)
                          (SVs.cons (SV.b b.work)
                            (SVs.cons (SV.i IntKind.i64 b.prg)
                              (SVs.cons (SV.i IntKind.i64 b.chr)
                                (SVs.cons (SV.b b.cram)
                                  (SVs.cons (SV.i IntKind.u8 b.shift)
                                    (SVs.cons (SV.i IntKind.u8 b.ctrl)
                                      (SVs.cons (SV.i IntKind.u8 b.chrA)
                                        (SVs.cons (SV.i IntKind.u8 b.chrB)
                                          (SVs.cons (SV.i IntKind.u8 b.prgR)
                                            (SVs.cons (SV.i IntKind.i64 b.last)
                                              (SVs.cons (SV.i IntKind.u8 b.latch)
                                                (SVs.cons (SV.i IntKind.u8 b.sel)
                                                  (SVs.cons (SV.arr IntKind.u8 8 b.rs) (SVs.cons (SV.i IntKind.u8 b.turn) (SVs.cons (SV.i IntKind.u8 b.guard) (SVs.cons (SV.i IntKind.u8 b.iLatch) (SVs.cons (SV.i IntKind.u8 b.iCount) (SVs.cons (SV.b b.iLoad) (SVs.cons (SV.b b.iOn) (SVs.cons (SV.b b.irq) (SVs.cons (SV.i IntKind.i64 b.epoch) SVs.nil)))))))))))))))))))))))) =
                  b.sv ∧
                SV.agg
                      (SVs.cons (SV.i IntKind.i64 b.kind)
                        (SVs.cons (SV.i IntKind.i64 b.sub)
                          (SVs.cons (SV.i IntKind.u8 b.hard)
                            (SVs.cons (SV.b b.work)
                              (SVs.cons (SV.i IntKind.i64 b.prg)
                                (SVs.cons (SV.i IntKind.i64 b.chr)
                                  (SVs.cons (SV.b b.cram)
                                    (SVs.cons (SV.i IntKind.u8 b.shift)
                                      (SVs.cons (SV.i IntKind.u8 b.ctrl)
                                        (SVs.cons (SV.i IntKind.u8 b.chrA)
                                          (SVs.cons (SV.i IntKind.u8 b.chrB)
                                            (SVs.cons (SV.i IntKind.u8 b.prgR)
                                              (SVs.cons (SV.i IntKind.i64 b.last)
                                                (SVs.cons (SV.i IntKind.u8 b.latch)
                                                  (SVs.cons (SV.i IntKind.u8 b.sel)
                                                    (SVs.cons (SV.arr IntKind.u8 8 b.rs) (SVs.cons (SV.i IntKind.u8 b.turn) (SVs.cons (SV.i IntKind.u8 b.guard) (SVs.cons (SV.i IntKind.u8 b.iLatch) (SVs.cons (SV.i IntKind.u8 b.iCount) (SVs.cons (SV.b b.iLoad) (SVs.cons (SV.b b.iOn) (SVs.cons (SV.b b.irq) (SVs.cons (SV.i IntKind.i64 b.epoch) SVs.nil)))))))))))))))))))))))) =
                    b.sv ∧
                  Z ((b.mmc1B w).tmod b.prg))
          False)
      (br (b.kind == 2)
        (Chk (okWin b w) ∧
          br (!decide (b.prg = 0))
            (SV.i IntKind.i64 b.prg = SV.i IntKind.i64 b.prg ∧
              SV.i IntKind.i64 b.prg = SV.i IntKind.i64 b.prg ∧
                SV.agg
                      (SVs.cons (SV.i IntKind.i64 b.kind)
                        (SVs.cons (SV.i IntKind.i64 b.sub)
                          (SVs.cons (SV.i IntKind.u8 b.hard)
                            (SVs.cons (SV.b b.work)
                              (SVs.cons (SV.i IntKind.i64 b.prg)
                                (SVs.cons (SV.i IntKind.i64 b.chr)
                                  (SVs.cons (SV.b b.cram)
                                    (SVs.cons (SV.i IntKind.u8 b.shift)
                                      (SVs.cons (SV.i IntKind.u8 b.ctrl)
                                        (SVs.cons (SV.i IntKind.u8 b.chrA)
                                          (SVs.cons (SV.i IntKind.u8 b.chrB)
                                            (SVs.cons (SV.i IntKind.u8 b.prgR)
                                              (SVs.cons (SV.i IntKind.i64 b.last)
                                                (SVs.cons (SV.i IntKind.u8 b.latch)
                                                  (SVs.cons (SV.i IntKind.u8 b.sel)
                                                    (SVs.cons (SV.arr IntKind.u8 8 b.rs) (SVs.cons (SV.i IntKind.u8 b.turn) (SVs.cons (SV.i IntKind.u8 b.guard) (SVs.cons (SV.i IntKind.u8 b.iLatch) (SVs.cons (SV.i IntKind.u8 b.iCount) (SVs.cons (SV.b b.iLoad) (SVs.cons (SV.b b.iOn) (SVs.cons (SV.b b.irq) (SVs.cons (SV.i IntKind.i64 b.epoch) SVs.nil)))))))))))))))))))))))) =
                    b.sv ∧
                  SV.agg
                        (SVs.cons (SV.i IntKind.i64 b.kind)
                          (SVs.cons (SV.i IntKind.i64 b.sub)
                            (SVs.cons (SV.i IntKind.u8 b.hard)
                              (SVs.cons (SV.b b.work)
                                (SVs.cons (SV.i IntKind.i64 b.prg)
                                  (SVs.cons (SV.i IntKind.i64 b.chr)
                                    (SVs.cons (SV.b b.cram)
                                      (SVs.cons (SV.i IntKind.u8 b.shift)
                                        (SVs.cons (SV.i IntKind.u8 b.ctrl)
                                          (SVs.cons (SV.i IntKind.u8 b.chrA)
                                            (SVs.cons (SV.i IntKind.u8 b.chrB)
                                              (SVs.cons (SV.i IntKind.u8 b.prgR)
                                                (SVs.cons (SV.i IntKind.i64 b.last)
                                                  (SVs.cons (SV.i IntKind.u8 b.latch)
                                                    (SVs.cons (SV.i IntKind.u8 b.sel)
                                                      (SVs.cons (SV.arr IntKind.u8 8 b.rs) (SVs.cons (SV.i IntKind.u8 b.turn) (SVs.cons (SV.i IntKind.u8 b.guard) (SVs.cons (SV.i IntKind.u8 b.iLatch) (SVs.cons (SV.i IntKind.u8 b.iCount) (SVs.cons (SV.b b.iLoad) (SVs.cons (SV.b b.iOn) (SVs.cons (SV.b b.irq) (SVs.cons (SV.i IntKind.i64 b.epoch) SVs.nil)))))))))))))))))))))))) =
                      b.sv ∧
                    Z ((b.uxB w).tmod b.prg))
            False)
        (br (b.kind == 3)
          (br (!decide (b.prg = 0))
            (SV.i IntKind.i64 b.prg = SV.i IntKind.i64 b.prg ∧
              SV.i IntKind.i64 b.prg = SV.i IntKind.i64 b.prg ∧
                SV.agg
                      (SVs.cons (SV.i IntKind.i64 b.kind)
                        (SVs.cons (SV.i IntKind.i64 b.sub)
                          (SVs.cons (SV.i IntKind.u8 b.hard)
                            (SVs.cons (SV.b b.work)
                              (SVs.cons (SV.i IntKind.i64 b.prg)
                                (SVs.cons (SV.i IntKind.i64 b.chr)
                                  (SVs.cons (SV.b b.cram)
                                    (SVs.cons (SV.i IntKind.u8 b.shift)
                                      (SVs.cons (SV.i IntKind.u8 b.ctrl)
                                        (SVs.cons (SV.i IntKind.u8 b.chrA)
                                          (SVs.cons (SV.i IntKind.u8 b.chrB)
                                            (SVs.cons (SV.i IntKind.u8 b.prgR)
                                              (SVs.cons (SV.i IntKind.i64 b.last)
                                                (SVs.cons (SV.i IntKind.u8 b.latch)
                                                  (SVs.cons (SV.i IntKind.u8 b.sel)
                                                    (SVs.cons (SV.arr IntKind.u8 8 b.rs) (SVs.cons (SV.i IntKind.u8 b.turn) (SVs.cons (SV.i IntKind.u8 b.guard) (SVs.cons (SV.i IntKind.u8 b.iLatch) (SVs.cons (SV.i IntKind.u8 b.iCount) (SVs.cons (SV.b b.iLoad) (SVs.cons (SV.b b.iOn) (SVs.cons (SV.b b.irq) (SVs.cons (SV.i IntKind.i64 b.epoch) SVs.nil)))))))))))))))))))))))) =
                    b.sv ∧
                  SV.agg
                        (SVs.cons (SV.i IntKind.i64 b.kind)
                          (SVs.cons (SV.i IntKind.i64 b.sub)
                            (SVs.cons (SV.i IntKind.u8 b.hard)
                              (SVs.cons (SV.b b.work)
                                (SVs.cons (SV.i IntKind.i64 b.prg)
                                  (SVs.cons (SV.i IntKind.i64 b.chr)
                                    (SVs.cons (SV.b b.cram)
                                      (SVs.cons (SV.i IntKind.u8 b.shift)
                                        (SVs.cons (SV.i IntKind.u8 b.ctrl)
                                          (SVs.cons (SV.i IntKind.u8 b.chrA)
                                            (SVs.cons (SV.i IntKind.u8 b.chrB)
                                              (SVs.cons (SV.i IntKind.u8 b.prgR)
                                                (SVs.cons (SV.i IntKind.i64 b.last)
                                                  (SVs.cons (SV.i IntKind.u8 b.latch)
                                                    (SVs.cons (SV.i IntKind.u8 b.sel)
                                                      (SVs.cons (SV.arr IntKind.u8 8 b.rs) (SVs.cons (SV.i IntKind.u8 b.turn) (SVs.cons (SV.i IntKind.u8 b.guard) (SVs.cons (SV.i IntKind.u8 b.iLatch) (SVs.cons (SV.i IntKind.u8 b.iCount) (SVs.cons (SV.b b.iLoad) (SVs.cons (SV.b b.iOn) (SVs.cons (SV.b b.irq) (SVs.cons (SV.i IntKind.i64 b.epoch) SVs.nil)))))))))))))))))))))))) =
                      b.sv ∧
                    Z (w.tmod b.prg))
            False)
          (br (b.kind == 4)
            (Chk (okWin b w) ∧
              br (!decide (b.prg = 0))
                (SV.i IntKind.i64 b.prg = SV.i IntKind.i64 b.prg ∧
                  SV.i IntKind.i64 b.prg = SV.i IntKind.i64 b.prg ∧
                    SV.agg
                          (SVs.cons (SV.i IntKind.i64 b.kind)
                            (SVs.cons (SV.i IntKind.i64 b.sub)
                              (SVs.cons (SV.i IntKind.u8 b.hard)
                                (SVs.cons (SV.b b.work)
                                  (SVs.cons (SV.i IntKind.i64 b.prg)
                                    (SVs.cons (SV.i IntKind.i64 b.chr)
                                      (SVs.cons (SV.b b.cram)
                                        (SVs.cons (SV.i IntKind.u8 b.shift)
                                          (SVs.cons (SV.i IntKind.u8 b.ctrl)
                                            (SVs.cons (SV.i IntKind.u8 b.chrA)
                                              (SVs.cons (SV.i IntKind.u8 b.chrB)
                                                (SVs.cons (SV.i IntKind.u8 b.prgR)
                                                  (SVs.cons (SV.i IntKind.i64 b.last)
                                                    (SVs.cons (SV.i IntKind.u8 b.latch)
                                                      (SVs.cons (SV.i IntKind.u8 b.sel)
                                                        (SVs.cons (SV.arr IntKind.u8 8 b.rs) (SVs.cons (SV.i IntKind.u8 b.turn) (SVs.cons (SV.i IntKind.u8 b.guard) (SVs.cons (SV.i IntKind.u8 b.iLatch) (SVs.cons (SV.i IntKind.u8 b.iCount) (SVs.cons (SV.b b.iLoad) (SVs.cons (SV.b b.iOn) (SVs.cons (SV.b b.irq) (SVs.cons (SV.i IntKind.i64 b.epoch) SVs.nil)))))))))))))))))))))))) =
                        b.sv ∧
                      SV.agg
                            (SVs.cons (SV.i IntKind.i64 b.kind)
                              (SVs.cons (SV.i IntKind.i64 b.sub)
                                (SVs.cons (SV.i IntKind.u8 b.hard)
                                  (SVs.cons (SV.b b.work)
                                    (SVs.cons (SV.i IntKind.i64 b.prg)
                                      (SVs.cons (SV.i IntKind.i64 b.chr)
                                        (SVs.cons (SV.b b.cram)
                                          (SVs.cons (SV.i IntKind.u8 b.shift)
                                            (SVs.cons (SV.i IntKind.u8 b.ctrl)
                                              (SVs.cons (SV.i IntKind.u8 b.chrA)
                                                (SVs.cons (SV.i IntKind.u8 b.chrB)
                                                  (SVs.cons (SV.i IntKind.u8 b.prgR)
                                                    (SVs.cons (SV.i IntKind.i64 b.last)
                                                      (SVs.cons (SV.i IntKind.u8 b.latch)
                                                        (SVs.cons (SV.i IntKind.u8 b.sel)
                                                          (SVs.cons (SV.arr IntKind.u8 8 b.rs) (SVs.cons (SV.i IntKind.u8 b.turn) (SVs.cons (SV.i IntKind.u8 b.guard) (SVs.cons (SV.i IntKind.u8 b.iLatch) (SVs.cons (SV.i IntKind.u8 b.iCount) (SVs.cons (SV.b b.iLoad) (SVs.cons (SV.b b.iOn) (SVs.cons (SV.b b.irq) (SVs.cons (SV.i IntKind.i64 b.epoch) SVs.nil)))))))))))))))))))))))) =
                          b.sv ∧
                        Z ((b.mmc3B w).tmod b.prg))
                False)
            (br (b.kind == 7)
              (Chk (okWin b w) ∧
                br (!decide (b.prg = 0))
                  (SV.i IntKind.i64 b.prg = SV.i IntKind.i64 b.prg ∧
                    SV.i IntKind.i64 b.prg = SV.i IntKind.i64 b.prg ∧
                      SV.agg
                            (SVs.cons (SV.i IntKind.i64 b.kind)
                              (SVs.cons (SV.i IntKind.i64 b.sub)
                                (SVs.cons (SV.i IntKind.u8 b.hard)
                                  (SVs.cons (SV.b b.work)
                                    (SVs.cons (SV.i IntKind.i64 b.prg)
                                      (SVs.cons (SV.i IntKind.i64 b.chr)
                                        (SVs.cons (SV.b b.cram)
                                          (SVs.cons (SV.i IntKind.u8 b.shift)
                                            (SVs.cons (SV.i IntKind.u8 b.ctrl)
                                              (SVs.cons (SV.i IntKind.u8 b.chrA)
                                                (SVs.cons (SV.i IntKind.u8 b.chrB)
                                                  (SVs.cons (SV.i IntKind.u8 b.prgR)
                                                    (SVs.cons (SV.i IntKind.i64 b.last)
                                                      (SVs.cons (SV.i IntKind.u8 b.latch)
                                                        (SVs.cons (SV.i IntKind.u8 b.sel)
                                                          (SVs.cons (SV.arr IntKind.u8 8 b.rs) (SVs.cons (SV.i IntKind.u8 b.turn) (SVs.cons (SV.i IntKind.u8 b.guard) (SVs.cons (SV.i IntKind.u8 b.iLatch) (SVs.cons (SV.i IntKind.u8 b.iCount) (SVs.cons (SV.b b.iLoad) (SVs.cons (SV.b b.iOn) (SVs.cons (SV.b b.irq) (SVs.cons (SV.i IntKind.i64 b.epoch) SVs.nil)))))))))))))))))))))))) =
                          b.sv ∧
                        SV.agg
                              (SVs.cons (SV.i IntKind.i64 b.kind)
                                (SVs.cons (SV.i IntKind.i64 b.sub)
                                  (SVs.cons (SV.i IntKind.u8 b.hard)
                                    (SVs.cons (SV.b b.work)
                                      (SVs.cons (SV.i IntKind.i64 b.prg)
                                        (SVs.cons (SV.i IntKind.i64 b.chr)
                                          (SVs.cons (SV.b b.cram)
                                            (SVs.cons (SV.i IntKind.u8 b.shift)
                                              (SVs.cons (SV.i IntKind.u8 b.ctrl)
                                                (SVs.cons (SV.i IntKind.u8 b.chrA)
                                                  (SVs.cons (SV.i IntKind.u8 b.chrB)
                                                    (SVs.cons (SV.i IntKind.u8 b.prgR)
                                                      (SVs.cons (SV.i IntKind.i64 b.last)
                                                        (SVs.cons (SV.i IntKind.u8 b.latch)
                                                          (SVs.cons (SV.i IntKind.u8 b.sel)
                                                            (SVs.cons (SV.arr IntKind.u8 8 b.rs) (SVs.cons (SV.i IntKind.u8 b.turn) (SVs.cons (SV.i IntKind.u8 b.guard) (SVs.cons (SV.i IntKind.u8 b.iLatch) (SVs.cons (SV.i IntKind.u8 b.iCount) (SVs.cons (SV.b b.iLoad) (SVs.cons (SV.b b.iOn) (SVs.cons (SV.b b.irq) (SVs.cons (SV.i IntKind.i64 b.epoch) SVs.nil)))))))))))))))))))))))) =
                            b.sv ∧
                          Z ((b.axB w).tmod b.prg))
                  False)
              (br (!decide (b.prg = 0))
                (SV.i IntKind.i64 b.prg = SV.i IntKind.i64 b.prg ∧
                  SV.i IntKind.i64 b.prg = SV.i IntKind.i64 b.prg ∧
                    SV.agg
                          (SVs.cons (SV.i IntKind.i64 b.kind)
                            (SVs.cons (SV.i IntKind.i64 b.sub)
                              (SVs.cons (SV.i IntKind.u8 b.hard)
                                (SVs.cons (SV.b b.work)
                                  (SVs.cons (SV.i IntKind.i64 b.prg)
                                    (SVs.cons (SV.i IntKind.i64 b.chr)
                                      (SVs.cons (SV.b b.cram)
                                        (SVs.cons (SV.i IntKind.u8 b.shift)
                                          (SVs.cons (SV.i IntKind.u8 b.ctrl)
                                            (SVs.cons (SV.i IntKind.u8 b.chrA)
                                              (SVs.cons (SV.i IntKind.u8 b.chrB)
                                                (SVs.cons (SV.i IntKind.u8 b.prgR)
                                                  (SVs.cons (SV.i IntKind.i64 b.last)
                                                    (SVs.cons (SV.i IntKind.u8 b.latch)
                                                      (SVs.cons (SV.i IntKind.u8 b.sel)
                                                        (SVs.cons (SV.arr IntKind.u8 8 b.rs) (SVs.cons (SV.i IntKind.u8 b.turn) (SVs.cons (SV.i IntKind.u8 b.guard) (SVs.cons (SV.i IntKind.u8 b.iLatch) (SVs.cons (SV.i IntKind.u8 b.iCount) (SVs.cons (SV.b b.iLoad) (SVs.cons (SV.b b.iOn) (SVs.cons (SV.b b.irq) (SVs.cons (SV.i IntKind.i64 b.epoch) SVs.nil)))))))))))))))))))))))) =
                        b.sv ∧
                      SV.agg
                            (SVs.cons (SV.i IntKind.i64 b.kind)
                              (SVs.cons (SV.i IntKind.i64 b.sub)
                                (SVs.cons (SV.i IntKind.u8 b.hard)
                                  (SVs.cons (SV.b b.work)
                                    (SVs.cons (SV.i IntKind.i64 b.prg)
                                      (SVs.cons (SV.i IntKind.i64 b.chr)
                                        (SVs.cons (SV.b b.cram)
                                          (SVs.cons (SV.i IntKind.u8 b.shift)
                                            (SVs.cons (SV.i IntKind.u8 b.ctrl)
                                              (SVs.cons (SV.i IntKind.u8 b.chrA)
                                                (SVs.cons (SV.i IntKind.u8 b.chrB)
                                                  (SVs.cons (SV.i IntKind.u8 b.prgR)
                                                    (SVs.cons (SV.i IntKind.i64 b.last)
                                                      (SVs.cons (SV.i IntKind.u8 b.latch)
                                                        (SVs.cons (SV.i IntKind.u8 b.sel)
                                                          (SVs.cons (SV.arr IntKind.u8 8 b.rs) (SVs.cons (SV.i IntKind.u8 b.turn) (SVs.cons (SV.i IntKind.u8 b.guard) (SVs.cons (SV.i IntKind.u8 b.iLatch) (SVs.cons (SV.i IntKind.u8 b.iCount) (SVs.cons (SV.b b.iLoad) (SVs.cons (SV.b b.iOn) (SVs.cons (SV.b b.irq) (SVs.cons (SV.i IntKind.i64 b.epoch) SVs.nil)))))))))))))))))))))))) =
                          b.sv ∧
                        Z (w.tmod b.prg))
                False)))))))) := by kernel_rfl

end Go.Sx

namespace Go.Sx
open Go.Proofs
set_option linter.unusedVariables false
set_option linter.unusedSimpArgs false
set_option maxRecDepth 100000
theorem valid_sized {b : Brd} (h : b.valid = true) : listB b.kind b.sub = true ∧ b.sized = true := by
  unfold Brd.valid at h
  simp only [Bool.and_eq_true] at h
  exact h.1
theorem valid_prg {b : Brd} (h : b.valid = true) : 2 ≤ b.prg ∧ b.prg ≤ 128 ∧ 8 ≤ b.chr ∧ b.chr ≤ 512 := by
  have := (sized_iff b).1 (valid_sized h).2
  omega
theorem valid_kind {b : Brd} (h : b.valid = true) : b.kind = 0 ∨ b.kind = 1 ∨ b.kind = 2 ∨ b.kind = 3 ∨ b.kind = 4 ∨ b.kind = 7 := kinds (valid_sized h).1

theorem mmc1B_pos {b : Brd} {w : Int} (h : okWin b w) : 0 ≤ b.mmc1B w := by
  obtain ⟨hf, p0, p1, w0, w1⟩ := h
  unfold Brd.mmc1B
  simp only
  (repeat' split) <;> omega
theorem uxB_pos {b : Brd} {w : Int} (h : okWin b w) : 0 ≤ b.uxB w := by
  obtain ⟨hf, p0, p1, w0, w1⟩ := h
  have := hf.latch.1
  unfold Brd.uxB
  split <;> omega
theorem mmc3B_pos {b : Brd} {w : Int} (h : okWin b w) : 0 ≤ b.mmc3B w := by
  obtain ⟨hf, p0, p1, w0, w1⟩ := h
  unfold Brd.mmc3B
  (repeat' split) <;> omega
theorem axB_pos {b : Brd} {w : Int} (h : okWin b w) : 0 ≤ b.axB w := by
  obtain ⟨hf, p0, p1, w0, w1⟩ := h
  unfold Brd.axB
  omega
theorem bankR_pos {b : Brd} {w : Int} (h : okWin b w) : 0 ≤ b.bankR w := by
  unfold Brd.bankR
  (repeat' split)
  · exact mmc1B_pos h
  · exact uxB_pos h
  · exact mmc3B_pos h
  · exact axB_pos h
  · exact h.w0
theorem bank_key {b : Brd} {w : Int} (v : b.valid = true) (h : okWin b w) {X : Int} (e : X = b.bankR w) : X.tmod b.prg = b.bankN w := by
  subst e
  unfold Brd.bankN
  rw [if_pos ⟨v, h.w0, h.w1⟩, Int.tmod_eq_emod_of_nonneg (bankR_pos h)]

theorem p30 (x : Brd × Int) (h : okBI x.1 x.2) : Chk (bodyK (EB gM noLoop) (callN (EB gM noLoop) 3) 30 Tryd.f30 (eBI x) [] (fun y _ => onB (y.cl 0) (onI (fun n => n = x.1.bankN x.2) y))) := by
  obtain ⟨b, w⟩ := x
  constructor
  show bodyK (EB gM noLoop) (callN (EB gM noLoop) 3) 30 Tryd.f30 [b.sv, .i .i64 w] [] (fun y _ => onB (y.cl 0) (onI (fun n => n = b.bankN w) y))
  rw [t30]
  have hf : b.fit := h.fit
  clear h
  refine br_in (fun c => ⟨⟨hf⟩, br_in (fun d => ?_) (fun d => ?_)⟩) (fun c => br_in (fun d => ?_) (fun d => ?_))
  · unfold Brd.bankN
    rw [if_neg]
    rintro ⟨v, w0, w1⟩
    rw [v] at d; simp at d; omega
  · have hc : b.valid = true ∧ 0 ≤ w ∧ w ≤ 3 := by simp at d; exact ⟨d.2, by omega, by omega⟩
    have hp := valid_prg hc.1
    have ok : okWin b w := ⟨hf, hp.1, hp.2.1, hc.2.1, hc.2.2⟩
    have hne : (!decide (b.prg = 0)) = true := by simp; omega
    have key := @bank_key b w hc.1 ok
    refine br_in (fun e1 => ⟨⟨ok⟩, ?_⟩) (fun e1 => br_in (fun e2 => ⟨⟨ok⟩, ?_⟩) (fun e2 => br_in (fun e3 => ?_) (fun e3 => br_in (fun e4 => ⟨⟨ok⟩, ?_⟩) (fun e4 => br_in (fun e7 => ⟨⟨ok⟩, ?_⟩) (fun e7 => ?_))))) <;>
      refine br_in (fun _ => ⟨rfl, rfl, rfl, rfl, key ?_⟩) (fun e => by rw [hne] at e; simp at e) <;> unfold Brd.bankR <;> grind
  · unfold Brd.bankN
    rw [if_neg]
    rintro ⟨v, w0, w1⟩
    simp at c; omega
  · simp at d
def cBank : Con := .pure (preD dBI fun x => okBI x.1 x.2) (onD dBI fun x => .i .i64 (x.1.bankN x.2))
theorem onI_out {n : Int} {y : SV} (h : onI (fun m => m = n) y) : y = .i .i64 n := by
  unfold onI at h
  split at h
  · rw [h]
  · exact h.elim
theorem con30 : ConOK (EB gM noLoop) 30 cBank := EBconQ (enc := eBI) (p := fun x => okBI x.1 x.2) (F := fun x => .i .i64 (x.1.bankN x.2)) (Q := fun x => onI (fun n => n = x.1.bankN x.2)) gM_ok (noLoops _) 3 Tryd.func30 dBI_ok (fun x y h => onI_out h) p30

theorem p31 (x : Brd × Int) (h : okBI x.1 x.2) : Chk (bodyK (EB gV noLoop) (callN (EB gV noLoop) 3) 31 Tryd.f31 (eBI x) [] (fun y _ => onB (y.cl 0) (onI (fun n => n = x.1.bankN x.2) y))) := by
  obtain ⟨b, w⟩ := x
  constructor
  show bodyK (EB gV noLoop) (callN (EB gV noLoop) 3) 31 Tryd.f31 [b.sv, .i .i64 w] [] (fun y _ => onB (y.cl 0) (onI (fun n => n = b.bankN w) y))
  rw [t31]
  have hf : b.fit := h.fit
  clear h
  refine ⟨⟨hf⟩, br_in (fun d => ?_) (fun d => ?_)⟩
  · unfold Brd.bankN
    rw [if_neg]
    rintro ⟨v, w0, w1⟩
    rw [v] at d; simp at d; omega
  · have hc : b.valid = true ∧ 0 ≤ w ∧ w ≤ 3 := by simp at d; exact ⟨d.1.1, by omega, by omega⟩
    have hp := valid_prg hc.1
    have ok : okWin b w := ⟨hf, hp.1, hp.2.1, hc.2.1, hc.2.2⟩
    have hne : (!decide (b.prg = 0)) = true := by simp; omega
    have key := @bank_key b w hc.1 ok
    have hw := hc.2
    have hpr := hf.prgR
    have hct := hf.ctrl
    have hla := hf.latch
    have h6 := rs_u8 hf (i := 6) (by omega)
    have h7 := rs_u8 hf (i := 7) (by omega)
    unfold u8 at hpr hct hla h6 h7
    have k6 : (6 : Int).toNat = 6 := rfl
    have k7 : (7 : Int).toNat = 7 := rfl
    have c1 : b.ctrl.tdiv 4 = b.ctrl / 4 := Int.tdiv_eq_ediv_of_nonneg hct.1
    have c2 : IntKind.u8.wrap (b.ctrl / 4) = b.ctrl / 4 := wrap_u8 (by omega)
    have c3 : (b.ctrl / 4).tmod 4 = b.ctrl / 4 % 4 := Int.tmod_eq_emod_of_nonneg (by omega)
    have c4 : IntKind.i64.wrap (b.ctrl / 4 % 4) = b.ctrl / 4 % 4 := IntWalk.i64_in _ (by omega)
    have n1 : b.prgR.tmod 16 = b.prgR % 16 := Int.tmod_eq_emod_of_nonneg hpr.1
    have n2 : IntKind.i64.wrap (b.prgR % 16) = b.prgR % 16 := IntWalk.i64_in _ (by omega)
    have n3 : (b.prgR % 16).tmod 2 = b.prgR % 16 % 2 := Int.tmod_eq_emod_of_nonneg (by omega)
    have l1 : b.latch.tmod 16 = b.latch % 16 := Int.tmod_eq_emod_of_nonneg hla.1
    have r6 : (b.rs.getD 6 0).tmod 64 = b.rs.getD 6 0 % 64 := Int.tmod_eq_emod_of_nonneg h6.1
    have r7 : (b.rs.getD 7 0).tmod 64 = b.rs.getD 7 0 % 64 := Int.tmod_eq_emod_of_nonneg h7.1
    simp only [k6, k7, c1, c2, c3, c4, n1, n2, n3, l1, r6, r7, hne, br_t]
    have m1 : 0 ≤ b.ctrl / 4 % 4 ∧ b.ctrl / 4 % 4 < 4 := by omega
    have m2 : 0 ≤ b.prgR % 16 ∧ b.prgR % 16 < 16 := by omega
    have m3 : 0 ≤ b.latch % 16 ∧ b.latch % 16 < 16 := by omega
    have m6 : 0 ≤ b.rs.getD 6 0 % 64 ∧ b.rs.getD 6 0 % 64 < 64 := by omega
    have m7 : 0 ≤ b.rs.getD 7 0 % 64 ∧ b.rs.getD 7 0 % 64 < 64 := by omega
    simp (disch := omega) only [IntWalk.i64_in]
    have fin : ∀ X, X = b.bankR w → X.tmod b.prg = b.bankN w := fun X e => key e
    have kk := valid_kind hc.1
    clear key c1 c2 c3 c4 n1 n2 n3 l1 r6 r7 ok hne d
    unfold Brd.bankR Brd.mmc1B Brd.uxB Brd.mmc3B Brd.axB at fin
    simp only at fin
    generalize b.ctrl / 4 % 4 = m at *
    generalize b.prgR % 16 = n at *
    generalize b.latch % 16 = l at *
    generalize b.rs.getD 6 0 % 64 = s6 at *
    generalize b.rs.getD 7 0 % 64 = s7 at *
    generalize iand .u8 b.chrA 16 = q at *
    generalize iand .u8 b.sel 64 = g at *
    repeat' (refine br_in (fun _ => ?_) (fun _ => ?_))
    all_goals (refine fin _ ?_; clear fin; grind)
theorem con31 : ConOK (EB gV noLoop) 31 cBank := EBconQ (enc := eBI) (p := fun x => okBI x.1 x.2) (F := fun x => .i .i64 (x.1.bankN x.2)) (Q := fun x => onI (fun n => n = x.1.bankN x.2)) gV_ok (noLoops _) 3 Tryd.func31 dBI_ok (fun x y h => onI_out h) p31
end Go.Sx

namespace Go.Sx
open Go.Proofs
set_option linter.unusedVariables false
set_option linter.unusedSimpArgs false
set_option maxRecDepth 100000
def gO : List (Nat × Con) := (30, cBank) :: (31, cBank) :: gM
theorem gO_ok : GamOK (EB gO noLoop) := gam_ok rfl ⟨con30.of, con31.of, con108.of, con118.of, con127.of, con135.of, con27.of, con28.of, con133.of, con25.of, con26.of, con129.of, con56.of, con131.of, con24.of, con19.of, con20.of, con21.of, con41.of, con22.of, con23.of, con50.of, con51.of, con52.of, con53.of, trivial⟩
def onU (Z : Int → Prop) (y : SV) : Prop := match y with
  | .i .u8 n => Z n
  | _ => False

theorem t33 (b : Brd) (w : Int) (Z : Int → Prop) : (bodyK (EB gO noLoop) (callN (EB gO noLoop) 3) 33 Tryd.f33 [b.sv, .i .i64 w] [] (fun y _ => onB (y.cl 0) (onI Z y))) = (
  Chk b.fit ∧
  br (!b.valid || decide (w < 0) || decide (7 < w)) (Z (-1))
    (br (b.kind == 1)
      (br (iand IntKind.u8 b.ctrl 16 == 0) (br (!decide (b.chr = 0)) (Z ((IntKind.i64.wrap (IntKind.i64.wrap (4 * IntKind.i64.wrap (iand IntKind.u8 b.chrA 30)) + w)).tmod b.chr)) False)
        (br (decide (w < 4)) (br (!decide (b.chr = 0)) (Z ((IntKind.i64.wrap (IntKind.i64.wrap (4 * IntKind.i64.wrap b.chrA) + w)).tmod b.chr)) False) (br (!decide (b.chr = 0)) (Z ((IntKind.i64.wrap (IntKind.i64.wrap (IntKind.i64.wrap (4 * IntKind.i64.wrap b.chrB) + w) - 4)).tmod b.chr)) False)))
      (br (b.kind == 3) (br (!decide (b.chr = 0)) (Z ((IntKind.i64.wrap (IntKind.i64.wrap (8 * IntKind.i64.wrap b.latch) + w)).tmod b.chr)) False)
        (br (b.kind == 4)
          (br (iand IntKind.u8 b.sel 128 != 0)
            (br (decide ((IntKind.i64.wrap (w + 4)).tmod 8 < 2)) (br (!decide (b.chr = 0)) (Z ((IntKind.i64.wrap (IntKind.i64.wrap (iand IntKind.u8 (b.rs.getD (Int.toNat 0) 0) 254) + (IntKind.i64.wrap (w + 4)).tmod 8)).tmod b.chr)) False)
              (br (decide ((IntKind.i64.wrap (w + 4)).tmod 8 < 4)) (br (!decide (b.chr = 0)) (Z ((IntKind.i64.wrap (IntKind.i64.wrap (IntKind.i64.wrap (iand IntKind.u8 (b.rs.getD (Int.toNat 1) 0) 254) + (IntKind.i64.wrap (w + 4)).tmod 8) - 2)).tmod b.chr)) False)
                (br (inB (IntKind.i64.wrap ((IntKind.i64.wrap (w + 4)).tmod 8 - 2)) 8) (br (!decide (b.chr = 0)) (Z ((IntKind.i64.wrap (b.rs.getD (IntKind.i64.wrap ((IntKind.i64.wrap (w + 4)).tmod 8 - 2)).toNat 0)).tmod b.chr)) False) False)))
            (br (decide (w < 2)) (br (!decide (b.chr = 0)) (Z ((IntKind.i64.wrap (IntKind.i64.wrap (iand IntKind.u8 (b.rs.getD (Int.toNat 0) 0) 254) + w)).tmod b.chr)) False)
              (br (decide (w < 4)) (br (!decide (b.chr = 0)) (Z ((IntKind.i64.wrap (IntKind.i64.wrap (IntKind.i64.wrap (iand IntKind.u8 (b.rs.getD (Int.toNat 1) 0) 254) + w) - 2)).tmod b.chr)) False) (br (inB (IntKind.i64.wrap (w - 2)) 8) (br (!decide (b.chr = 0)) (Z ((IntKind.i64.wrap (b.rs.getD (IntKind.i64.wrap (w - 2)).toNat 0)).tmod b.chr)) False) False))))
          (br (!decide (b.chr = 0)) (Z (w.tmod b.chr)) False))))) := by kernel_rfl
theorem t109 (b : Brd) (w : Int) (Z : Int → Brd → Prop) : (bodyK (EB gO noLoop) (callN (EB gO noLoop) 1) 109 Tryd.f109 [.ptr 0 [], .i .i64 w] [ki b] (onKI Z)) = (
  br (iand IntKind.u8 b.ctrl 16 == 0) (Z (IntKind.i64.wrap (IntKind.i64.wrap (4 * IntKind.i64.wrap (iandn IntKind.u8 b.chrA 1)) + w)) b) (br (decide (w < 4)) (Z (IntKind.i64.wrap (IntKind.i64.wrap (4 * IntKind.i64.wrap b.chrA) + w)) b) (Z (IntKind.i64.wrap (IntKind.i64.wrap (IntKind.i64.wrap (4 * IntKind.i64.wrap b.chrB) + w) - 4)) b))) := by kernel_rfl
theorem t125 (b : Brd) (w : Int) (Z : Int → Brd → Prop) : (bodyK (EB gO noLoop) (callN (EB gO noLoop) 1) 125 Tryd.f125 [.ptr 0 [], .i .i64 w] [ki b] (onKI Z)) = (
  Z (IntKind.i64.wrap (IntKind.i64.wrap (8 * IntKind.i64.wrap b.latch) + w)) b) := by kernel_rfl
theorem t128 (b : Brd) (w : Int) (Z : Int → Brd → Prop) : (bodyK (EB gO noLoop) (callN (EB gO noLoop) 1) 128 Tryd.f128 [.ptr 0 [], .i .i64 w] [ki b] (onKI Z)) = (
  br (iand IntKind.u8 b.sel 128 != 0)
  (br (ixor IntKind.i64 w 4 == 0)
    (br (ixor IntKind.i64 w 4 == 0) (Z (IntKind.i64.wrap (IntKind.i64.wrap (iandn IntKind.u8 (b.rs.getD (Int.toNat 0) 0) 1) + ixor IntKind.i64 w 4)) b)
      (br (ixor IntKind.i64 w 4 == 2) (br (ixor IntKind.i64 w 4 == 2) (Z (IntKind.i64.wrap (IntKind.i64.wrap (IntKind.i64.wrap (iandn IntKind.u8 (b.rs.getD (Int.toNat 1) 0) 1) + ixor IntKind.i64 w 4) - 2)) b) (br (inB (IntKind.i64.wrap (ixor IntKind.i64 w 4 - 2)) 8) (Z (IntKind.i64.wrap (b.rs.getD (IntKind.i64.wrap (ixor IntKind.i64 w 4 - 2)).toNat 0)) b) False))
        (br (ixor IntKind.i64 w 4 == 3) (Z (IntKind.i64.wrap (IntKind.i64.wrap (IntKind.i64.wrap (iandn IntKind.u8 (b.rs.getD (Int.toNat 1) 0) 1) + ixor IntKind.i64 w 4) - 2)) b) (br (inB (IntKind.i64.wrap (ixor IntKind.i64 w 4 - 2)) 8) (Z (IntKind.i64.wrap (b.rs.getD (IntKind.i64.wrap (ixor IntKind.i64 w 4 - 2)).toNat 0)) b) False))))
    (br (ixor IntKind.i64 w 4 == 1) (Z (IntKind.i64.wrap (IntKind.i64.wrap (iandn IntKind.u8 (b.rs.getD (Int.toNat 0) 0) 1) + ixor IntKind.i64 w 4)) b)
      (br (ixor IntKind.i64 w 4 == 2) (br (ixor IntKind.i64 w 4 == 2) (Z (IntKind.i64.wrap (IntKind.i64.wrap (IntKind.i64.wrap (iandn IntKind.u8 (b.rs.getD (Int.toNat 1) 0) 1) + ixor IntKind.i64 w 4) - 2)) b) (br (inB (IntKind.i64.wrap (ixor IntKind.i64 w 4 - 2)) 8) (Z (IntKind.i64.wrap (b.rs.getD (IntKind.i64.wrap (ixor IntKind.i64 w 4 - 2)).toNat 0)) b) False))
        (br (ixor IntKind.i64 w 4 == 3) (Z (IntKind.i64.wrap (IntKind.i64.wrap (IntKind.i64.wrap (iandn IntKind.u8 (b.rs.getD (Int.toNat 1) 0) 1) + ixor IntKind.i64 w 4) - 2)) b) (br (inB (IntKind.i64.wrap (ixor IntKind.i64 w 4 - 2)) 8) (Z (IntKind.i64.wrap (b.rs.getD (IntKind.i64.wrap (ixor IntKind.i64 w 4 - 2)).toNat 0)) b) False)))))
  (br (w == 0)
    (br (w == 0) (Z (IntKind.i64.wrap (IntKind.i64.wrap (iandn IntKind.u8 (b.rs.getD (Int.toNat 0) 0) 1) + w)) b)
      (br (w == 2) (br (w == 2) (Z (IntKind.i64.wrap (IntKind.i64.wrap (IntKind.i64.wrap (iandn IntKind.u8 (b.rs.getD (Int.toNat 1) 0) 1) + w) - 2)) b) (br (inB (IntKind.i64.wrap (w - 2)) 8) (Z (IntKind.i64.wrap (b.rs.getD (IntKind.i64.wrap (w - 2)).toNat 0)) b) False))
        (br (w == 3) (Z (IntKind.i64.wrap (IntKind.i64.wrap (IntKind.i64.wrap (iandn IntKind.u8 (b.rs.getD (Int.toNat 1) 0) 1) + w) - 2)) b) (br (inB (IntKind.i64.wrap (w - 2)) 8) (Z (IntKind.i64.wrap (b.rs.getD (IntKind.i64.wrap (w - 2)).toNat 0)) b) False))))
    (br (w == 1) (Z (IntKind.i64.wrap (IntKind.i64.wrap (iandn IntKind.u8 (b.rs.getD (Int.toNat 0) 0) 1) + w)) b)
      (br (w == 2) (br (w == 2) (Z (IntKind.i64.wrap (IntKind.i64.wrap (IntKind.i64.wrap (iandn IntKind.u8 (b.rs.getD (Int.toNat 1) 0) 1) + w) - 2)) b) (br (inB (IntKind.i64.wrap (w - 2)) 8) (Z (IntKind.i64.wrap (b.rs.getD (IntKind.i64.wrap (w - 2)).toNat 0)) b) False))
        (br (w == 3) (Z (IntKind.i64.wrap (IntKind.i64.wrap (IntKind.i64.wrap (iandn IntKind.u8 (b.rs.getD (Int.toNat 1) 0) 1) + w) - 2)) b) (br (inB (IntKind.i64.wrap (w - 2)) 8) (Z (IntKind.i64.wrap (b.rs.getD (IntKind.i64.wrap (w - 2)).toNat 0)) b) False)))))) := by kernel_rfl
theorem t59 (b : Brd) (Z : Int → Prop) : (bodyK (EB gO noLoop) (callN (EB gO noLoop) 3) 59 Tryd.f59 [b.sv] [] (fun y _ => onB (y.cl 0) (onU Z y))) = (
  Chk b.fit ∧
  br (!b.valid) (Z 0)
    (br (b.hard == 4) (Z 4) (br (b.kind == 1) (br (inB (iand IntKind.u8 b.ctrl 3) 4) (Z ((((([0, 0, 0, 0].set 0 2).set 1 3).set 2 1).set 3 0).getD (iand IntKind.u8 b.ctrl 3).toNat 0)) False) (br (b.kind == 2) (Z b.hard) (br (b.kind == 3) (Z b.hard) (br (b.kind == 4) (br (b.turn == 1) (Z 0) (Z 1)) (br (b.kind == 7) (br (iand IntKind.u8 b.latch 16 != 0) (Z 3) (Z 2)) (Z b.hard)))))))) := by kernel_rfl
theorem t60 (b : Brd) (Z : Int → Prop) : (bodyK (EB gO noLoop) (callN (EB gO noLoop) 3) 60 Tryd.f60 [b.sv] [] (fun y _ => onB (y.cl 0) (onU Z y))) = (
  Chk b.fit ∧ br (!b.valid) (Z 0) (br (b.hard == 4) (Z 4) (br (b.kind == 1) (br (b.ctrl.tmod 4 == 0) (Z 2) (br (b.ctrl.tmod 4 == 1) (Z 3) (br (b.ctrl.tmod 4 == 2) (Z 1) (Z 0)))) (br (b.kind == 4) (br (b.turn == 0) (Z 1) (Z 0)) (br (b.kind == 7) (br (iand IntKind.u8 b.latch 16 == 0) (Z 2) (Z 3)) (Z b.hard)))))) := by kernel_rfl
theorem t62 (b : Brd) (Z : Int → Prop) : (bodyK (EB gO noLoop) (callN (EB gO noLoop) 3) 62 Tryd.f62 [b.sv] [] (fun y _ => onB (y.cl 0) (onI Z y))) = (
  br (!!b.work && true) (Chk b.fit ∧ br (!b.work || !b.valid) (Z 0) (br (b.kind == 1) (br (iand IntKind.u8 b.prgR 16 != 0) (Z 0) (Z 2)) (br (b.kind == 2) (Z 2) (br (b.kind == 3) (Z 2) (br (b.kind == 4) (br (iand IntKind.u8 b.guard 192 == 128) (Z 2) (br (iand IntKind.u8 b.guard 192 == 192) (Z 1) (Z 0))) (br (b.kind == 7) (Z 2) (Z 2)))))))
  (br (!b.work || !false) (Z 0) (br (b.kind == 1) (br (iand IntKind.u8 b.prgR 16 != 0) (Z 0) (Z 2)) (br (b.kind == 2) (Z 2) (br (b.kind == 3) (Z 2) (br (b.kind == 4) (br (iand IntKind.u8 b.guard 192 == 128) (Z 2) (br (iand IntKind.u8 b.guard 192 == 192) (Z 1) (Z 0))) (br (b.kind == 7) (Z 2) (Z 2)))))))) := by kernel_rfl
theorem t63 (b : Brd) (Z : Int → Prop) : (bodyK (EB gO noLoop) (callN (EB gO noLoop) 3) 63 Tryd.f63 [b.sv] [] (fun y _ => onB (y.cl 0) (onI Z y))) = (
  Chk b.fit ∧ br (!b.valid || !b.work) (Z 0) (br (b.kind == 1 && iand IntKind.u8 b.prgR 16 != 0) (Z 0) (br (b.kind == 4) (br (b.guard == 128) (Z 2) (br (b.guard == 192) (Z 1) (Z 0))) (Z 2)))) := by kernel_rfl

end Go.Sx

namespace Go.Sx
open Go.Proofs
set_option linter.unusedVariables false
set_option linter.unusedSimpArgs false
set_option maxRecDepth 100000

theorem andn1u {x : Int} (h : u8 x) : iandn .u8 x 1 = x - x % 2 := byte_all (p := fun x => iandn .u8 x 1 = x - x % 2) (by decide +kernel) h
theorem and254 {x : Int} (h : u8 x) : iand .u8 x 254 = x - x % 2 := byte_all (p := fun x => iand .u8 x 254 = x - x % 2) (by decide +kernel) h
theorem and30 {x : Int} (h : u8 x) (h1 : x ≤ 31) : iand .u8 x 30 = x - x % 2 := byte_all (p := fun x => x ≤ 31 → iand .u8 x 30 = x - x % 2) (by decide +kernel) h h1
theorem and3 {x : Int} (h : u8 x) : iand .u8 x 3 = x % 4 := byte_all (p := fun x => iand .u8 x 3 = x % 4) (by decide +kernel) h
theorem and192 {x : Int} (h : u8 x) (h1 : iand .u8 x 63 = 0) : iand .u8 x 192 = x := byte_all (p := fun x => iand .u8 x 63 = 0 → iand .u8 x 192 = x) (by decide +kernel) h h1
theorem xor4 {w : Int} (h : 0 ≤ w) (h7 : w ≤ 7) : ixor .i64 w 4 = (w + 4) % 8 := by
  have hw : w = 0 ∨ w = 1 ∨ w = 2 ∨ w = 3 ∨ w = 4 ∨ w = 5 ∨ w = 6 ∨ w = 7 := by omega
  rcases hw with rfl | rfl | rfl | rfl | rfl | rfl | rfl | rfl <;> decide +kernel

structure okSlot (b : Brd) (w : Int) : Prop where
  fit : b.fit
  p0 : 8 ≤ b.chr
  p1 : b.chr ≤ 512
  w0 : 0 ≤ w
  w1 : w ≤ 7
def Brd.mmc1C (b : Brd) (w : Int) : Int := if iand .u8 b.ctrl 16 = 0 then 4 * (b.chrA - b.chrA % 2) + w else if w < 4 then 4 * b.chrA + w else 4 * b.chrB + w - 4
def Brd.cnC (b : Brd) (w : Int) : Int := 8 * b.latch + w
def Brd.mmc3T (b : Brd) (w : Int) : Int := if iand .u8 b.sel 128 ≠ 0 then (w + 4) % 8 else w
def Brd.mmc3U (b : Brd) (t : Int) : Int := if t < 2 then b.rs.getD 0 0 - b.rs.getD 0 0 % 2 + t else if t < 4 then b.rs.getD 1 0 - b.rs.getD 1 0 % 2 + t - 2 else b.rs.getD (t - 2).toNat 0
def Brd.mmc3C (b : Brd) (w : Int) : Int := b.mmc3U (b.mmc3T w)
def Brd.chrR (b : Brd) (w : Int) : Int := if b.kind = 1 then b.mmc1C w else if b.kind = 3 then b.cnC w else if b.kind = 4 then b.mmc3C w else w
/-- ChrBank. -/
def Brd.chrN (b : Brd) (w : Int) : Int := if b.valid = true ∧ 0 ≤ w ∧ w ≤ 7 then b.chrR w % b.chr else -1

theorem p109 (b : Brd) (w : Int) (h : okSlot b w) : Chk (bodyK (EB gO noLoop) (callN (EB gO noLoop) 1) 109 Tryd.f109 (.ptr 0 [] :: eI w) [ki b] (onKI fun n b' => n = b.mmc1C w ∧ b' = b)) := by
  constructor
  show bodyK (EB gO noLoop) (callN (EB gO noLoop) 1) 109 Tryd.f109 [.ptr 0 [], .i .i64 w] [ki b] (onKI fun n b' => n = b.mmc1C w ∧ b' = b)
  rw [t109]
  obtain ⟨hf, p0, p1, w0, w1⟩ := h
  have ha := hf.chrA
  have hb := hf.chrB
  have e1 := andn1u ha
  unfold u8 at ha hb
  unfold Brd.mmc1C
  simp only [e1]
  simp (disch := omega) only [IntWalk.i64_in]
  generalize iand .u8 b.ctrl 16 = q at *
  clear hf e1
  repeat' (first | refine br_in (fun _ => ?_) (fun _ => ?_) | refine And.intro ?_ trivial)
  all_goals grind
theorem p125 (b : Brd) (w : Int) (h : okSlot b w) : Chk (bodyK (EB gO noLoop) (callN (EB gO noLoop) 1) 125 Tryd.f125 (.ptr 0 [] :: eI w) [ki b] (onKI fun n b' => n = b.cnC w ∧ b' = b)) := by
  constructor
  show bodyK (EB gO noLoop) (callN (EB gO noLoop) 1) 125 Tryd.f125 [.ptr 0 [], .i .i64 w] [ki b] (onKI fun n b' => n = b.cnC w ∧ b' = b)
  rw [t125]
  obtain ⟨hf, p0, p1, w0, w1⟩ := h
  have ha := hf.latch
  unfold u8 at ha
  unfold Brd.cnC
  simp (disch := omega) only [IntWalk.i64_in]
  exact ⟨trivial, trivial⟩
theorem inB_t {i : Int} {n : Nat} (h : 0 ≤ i ∧ i < n) : inB i n = true := by
  unfold inB; simp; exact h
theorem u3_in (b : Brd) (hf : b.fit) (Z : Int → Brd → Prop) {t : Int} (h0 : 0 ≤ t) (h7 : t ≤ 7) (hz : Z (b.mmc3U t) b) :
    br (t == 0) (br (t == 0) (Z (IntKind.i64.wrap (IntKind.i64.wrap (iandn IntKind.u8 (b.rs.getD (Int.toNat 0) 0) 1) + t)) b)
      (br (t == 2) (br (t == 2) (Z (IntKind.i64.wrap (IntKind.i64.wrap (IntKind.i64.wrap (iandn IntKind.u8 (b.rs.getD (Int.toNat 1) 0) 1) + t) - 2)) b) (br (inB (IntKind.i64.wrap (t - 2)) 8) (Z (IntKind.i64.wrap (b.rs.getD (IntKind.i64.wrap (t - 2)).toNat 0)) b) False))
        (br (t == 3) (Z (IntKind.i64.wrap (IntKind.i64.wrap (IntKind.i64.wrap (iandn IntKind.u8 (b.rs.getD (Int.toNat 1) 0) 1) + t) - 2)) b) (br (inB (IntKind.i64.wrap (t - 2)) 8) (Z (IntKind.i64.wrap (b.rs.getD (IntKind.i64.wrap (t - 2)).toNat 0)) b) False))))
    (br (t == 1) (Z (IntKind.i64.wrap (IntKind.i64.wrap (iandn IntKind.u8 (b.rs.getD (Int.toNat 0) 0) 1) + t)) b)
      (br (t == 2) (br (t == 2) (Z (IntKind.i64.wrap (IntKind.i64.wrap (IntKind.i64.wrap (iandn IntKind.u8 (b.rs.getD (Int.toNat 1) 0) 1) + t) - 2)) b) (br (inB (IntKind.i64.wrap (t - 2)) 8) (Z (IntKind.i64.wrap (b.rs.getD (IntKind.i64.wrap (t - 2)).toNat 0)) b) False))
        (br (t == 3) (Z (IntKind.i64.wrap (IntKind.i64.wrap (IntKind.i64.wrap (iandn IntKind.u8 (b.rs.getD (Int.toNat 1) 0) 1) + t) - 2)) b) (br (inB (IntKind.i64.wrap (t - 2)) 8) (Z (IntKind.i64.wrap (b.rs.getD (IntKind.i64.wrap (t - 2)).toNat 0)) b) False)))) := by
  have k0 : (0 : Int).toNat = 0 := rfl
  have k1 : (1 : Int).toNat = 1 := rfl
  have g0 := rs_u8 hf (i := 0) (by omega)
  have g1 := rs_u8 hf (i := 1) (by omega)
  simp only [k0, k1, andn1u g0, andn1u g1]
  have e2 : IntKind.i64.wrap (t - 2) = t - 2 := IntWalk.i64_in _ (by omega)
  rw [e2]
  unfold Brd.mmc3U at hz
  unfold u8 at g0 g1
  by_cases c : t < 4
  · have k2 : IntKind.i64.wrap (b.rs.getD 0 0 - b.rs.getD 0 0 % 2) = b.rs.getD 0 0 - b.rs.getD 0 0 % 2 := IntWalk.i64_in _ (by omega)
    have k3 : IntKind.i64.wrap (b.rs.getD 1 0 - b.rs.getD 1 0 % 2) = b.rs.getD 1 0 - b.rs.getD 1 0 % 2 := IntWalk.i64_in _ (by omega)
    simp (disch := omega) only [k2, k3, IntWalk.i64_in]
    have ht : t = 0 ∨ t = 1 ∨ t = 2 ∨ t = 3 := by omega
    rcases ht with rfl | rfl | rfl | rfl <;> simp [br] at hz ⊢ <;> exact hz
  · have g2 := rs_u8 hf (i := (t - 2).toNat) (by omega)
    unfold u8 at g2
    have k2 : IntKind.i64.wrap (b.rs.getD (t - 2).toNat 0) = b.rs.getD (t - 2).toNat 0 := IntWalk.i64_in _ (by omega)
    rw [k2, inB_t (by omega)]
    rw [if_neg (by omega), if_neg c] at hz
    have n0 : (t == 0) = false := by simp; omega
    have n1 : (t == 1) = false := by simp; omega
    have n2 : (t == 2) = false := by simp; omega
    have n3 : (t == 3) = false := by simp; omega
    simp only [n0, n1, n2, n3]
    exact hz
theorem p128 (b : Brd) (w : Int) (h : okSlot b w) : Chk (bodyK (EB gO noLoop) (callN (EB gO noLoop) 1) 128 Tryd.f128 (.ptr 0 [] :: eI w) [ki b] (onKI fun n b' => n = b.mmc3C w ∧ b' = b)) := by
  constructor
  show bodyK (EB gO noLoop) (callN (EB gO noLoop) 1) 128 Tryd.f128 [.ptr 0 [], .i .i64 w] [ki b] (onKI fun n b' => n = b.mmc3C w ∧ b' = b)
  rw [t128]
  obtain ⟨hf, p0, p1, w0, w1⟩ := h
  refine br_in (fun c => ?_) (fun c => ?_)
  · rw [xor4 w0 w1]
    refine u3_in b hf (fun n b' => n = b.mmc3C w ∧ b' = b) (by omega) (by omega) ⟨?_, rfl⟩
    unfold Brd.mmc3C Brd.mmc3T
    rw [if_pos (by simpa using c)]
  · refine u3_in b hf (fun n b' => n = b.mmc3C w ∧ b' = b) w0 w1 ⟨?_, rfl⟩
    unfold Brd.mmc3C Brd.mmc3T
    rw [if_neg (by simpa using c)]
def cSlot (F : Brd → Int → Int) : Con := .mth (mthD dI okSlot (fun b w => .i .i64 (F b w)) (fun b _ => b))
theorem con109 : ConOK (EB gO noLoop) 109 (cSlot Brd.mmc1C) := EBget (enc := eI) (p := okSlot) (F := Brd.mmc1C) gO_ok (noLoops _) 1 Tryd.func109 dI_ok p109
theorem con125 : ConOK (EB gO noLoop) 125 (cSlot Brd.cnC) := EBget (enc := eI) (p := okSlot) (F := Brd.cnC) gO_ok (noLoops _) 1 Tryd.func125 dI_ok p125
theorem con128 : ConOK (EB gO noLoop) 128 (cSlot Brd.mmc3C) := EBget (enc := eI) (p := okSlot) (F := Brd.mmc3C) gO_ok (noLoops _) 1 Tryd.func128 dI_ok p128

theorem chrR_pos {b : Brd} {w : Int} (h : okSlot b w) : 0 ≤ b.chrR w := by
  obtain ⟨hf, p0, p1, w0, w1⟩ := h
  have h1 := hf.chrA
  have h2 := hf.chrB
  have h3 := hf.latch
  have g0 := rs_u8 hf (i := 0) (by omega)
  have g1 := rs_u8 hf (i := 1) (by omega)
  unfold u8 at h1 h2 h3 g0 g1
  unfold Brd.chrR Brd.mmc1C Brd.cnC Brd.mmc3C
  have h4 : 0 ≤ b.mmc3T w ∧ b.mmc3T w ≤ 7 := by unfold Brd.mmc3T; split <;> omega
  have h5 : 0 ≤ b.mmc3U (b.mmc3T w) := by
    unfold Brd.mmc3U
    split
    · omega
    · split
      · omega
      · exact (rs_u8 hf (i := (b.mmc3T w - 2).toNat) (by omega)).1
  (repeat' split) <;> omega
theorem chr_key {b : Brd} {w : Int} (v : b.valid = true) (h : okSlot b w) {X : Int} (e : X = b.chrR w) : X.tmod b.chr = b.chrN w := by
  subst e
  unfold Brd.chrN
  rw [if_pos ⟨v, h.w0, h.w1⟩, Int.tmod_eq_emod_of_nonneg (chrR_pos h)]
theorem valid_regs {b : Brd} (h : b.valid = true) : b.regs = true := by
  unfold Brd.valid at h
  simp only [Bool.and_eq_true] at h
  exact h.2
theorem valid_m1 {b : Brd} (h : b.valid = true) (k : b.kind = 1) : 1 ≤ b.shift ∧ b.shift ≤ 31 ∧ b.ctrl ≤ 31 ∧ b.chrA ≤ 31 ∧ b.chrB ≤ 31 ∧ b.prgR ≤ 31 ∧ (0 ≤ b.last ∨ b.last = -2) := by
  have := valid_regs h
  unfold Brd.regs at this
  rw [if_pos k] at this
  simp at this
  grind
theorem valid_m3 {b : Brd} (h : b.valid = true) (k : b.kind = 4) : iand .u8 b.sel 56 = 0 ∧ b.turn ≤ 1 ∧ iand .u8 b.guard 63 = 0 := by
  have := valid_regs h
  unfold Brd.regs at this
  rw [if_neg (by omega), if_neg (by omega), if_pos k] at this
  simp at this
  grind

theorem p33 (x : Brd × Int) (h : okBI x.1 x.2) : Chk (bodyK (EB gO noLoop) (callN (EB gO noLoop) 3) 33 Tryd.f33 (eBI x) [] (fun y _ => onB (y.cl 0) (onI (fun n => n = x.1.chrN x.2) y))) := by
  obtain ⟨b, w⟩ := x
  constructor
  show bodyK (EB gO noLoop) (callN (EB gO noLoop) 3) 33 Tryd.f33 [b.sv, .i .i64 w] [] (fun y _ => onB (y.cl 0) (onI (fun n => n = b.chrN w) y))
  rw [t33]
  have hf : b.fit := h.fit
  clear h
  refine ⟨⟨hf⟩, br_in (fun d => ?_) (fun d => ?_)⟩
  · unfold Brd.chrN
    rw [if_neg]
    rintro ⟨v, w0, w1⟩
    rw [v] at d; simp at d; omega
  · have hc : b.valid = true ∧ 0 ≤ w ∧ w ≤ 7 := by simp at d; exact ⟨d.1.1, by omega, by omega⟩
    have hp := valid_prg hc.1
    have ok : okSlot b w := ⟨hf, hp.2.2.1, hp.2.2.2, hc.2.1, hc.2.2⟩
    have hne : (!decide (b.chr = 0)) = true := by simp; omega
    have key := @chr_key b w hc.1 ok
    have hw := hc.2
    have ha := hf.chrA
    have hb := hf.chrB
    have hl := hf.latch
    have g0 := rs_u8 hf (i := 0) (by omega)
    have g1 := rs_u8 hf (i := 1) (by omega)
    have k0 : (0 : Int).toNat = 0 := rfl
    have k1 : (1 : Int).toNat = 1 := rfl
    have t0 : IntKind.i64.wrap (w + 4) = w + 4 := IntWalk.i64_in _ (by omega)
    have t1 : (w + 4).tmod 8 = (w + 4) % 8 := Int.tmod_eq_emod_of_nonneg (by omega)
    simp only [hne, br_t, k0, k1, and254 g0, and254 g1, t0, t1]
    refine br_in (fun c1 => ?_) (fun c1 => br_in (fun c3 => ?_) (fun c3 => br_in (fun c4 => ?_) (fun c4 => ?_)))
    · have c1' : b.kind = 1 := by simpa using c1
      have m1 := valid_m1 hc.1 c1'
      rw [and30 ha (by omega)]
      unfold u8 at ha hb
      simp (disch := omega) only [IntWalk.i64_in]
      unfold Brd.chrR Brd.mmc1C at key
      rw [if_pos c1'] at key
      generalize iand .u8 b.ctrl 16 = q at *
      repeat' (refine br_in (fun _ => ?_) (fun _ => ?_))
      all_goals (refine key ?_; grind)
    · unfold u8 at hl
      simp (disch := omega) only [IntWalk.i64_in]
      unfold Brd.chrR Brd.cnC at key
      refine key ?_
      grind
    · have c1' : ¬ b.kind = 1 := by simpa using c1
      have c3' : ¬ b.kind = 3 := by simpa using c3
      have c4' : b.kind = 4 := by simpa using c4
      unfold Brd.chrR at key
      rw [if_neg c1', if_neg c3', if_pos c4'] at key
      unfold Brd.mmc3C Brd.mmc3T at key
      refine br_in (fun c => ?_) (fun c => ?_)
      · rw [if_pos (by simpa using c)] at key
        have r8 : 0 ≤ (w + 4) % 8 ∧ (w + 4) % 8 ≤ 7 := by omega
        generalize (w + 4) % 8 = t at *
        have g2 : 2 ≤ t → u8 (b.rs.getD (t - 2).toNat 0) := fun _ => rs_u8 hf (by omega)
        have e2 : IntKind.i64.wrap (t - 2) = t - 2 := IntWalk.i64_in _ (by omega)
        rw [e2]
        unfold u8 at g0 g1 g2
        unfold Brd.mmc3U at key
        refine br_in (fun d1 => ?_) (fun d1 => br_in (fun d2 => ?_) (fun d2 => br_in (fun d3 => ?_) (fun d3 => ?_)))
        · simp (disch := omega) only [IntWalk.i64_in]
          exact key (by grind)
        · simp (disch := omega) only [IntWalk.i64_in]
          exact key (by grind)
        · simp at d1 d2
          have := g2 (by omega)
          simp (disch := omega) only [IntWalk.i64_in]
          exact key (by grind)
        · rw [inB_t (by simp at d1; omega)] at d3
          simp at d3
      · rw [if_neg (by simpa using c)] at key
        have g2 : 2 ≤ w → u8 (b.rs.getD (w - 2).toNat 0) := fun _ => rs_u8 hf (by omega)
        have e2 : IntKind.i64.wrap (w - 2) = w - 2 := IntWalk.i64_in _ (by omega)
        rw [e2]
        unfold u8 at g0 g1 g2
        unfold Brd.mmc3U at key
        refine br_in (fun d1 => ?_) (fun d1 => br_in (fun d2 => ?_) (fun d2 => br_in (fun d3 => ?_) (fun d3 => ?_)))
        · simp (disch := omega) only [IntWalk.i64_in]
          exact key (by grind)
        · simp (disch := omega) only [IntWalk.i64_in]
          exact key (by grind)
        · simp at d1 d2
          have := g2 (by omega)
          simp (disch := omega) only [IntWalk.i64_in]
          exact key (by grind)
        · rw [inB_t (by simp at d1; omega)] at d3
          simp at d3
    · refine key ?_
      unfold Brd.chrR
      grind
def cSlotN : Con := .pure (preD dBI fun x => okBI x.1 x.2) (onD dBI fun x => .i .i64 (x.1.chrN x.2))
theorem con33 : ConOK (EB gO noLoop) 33 cSlotN := EBconQ (enc := eBI) (p := fun x => okBI x.1 x.2) (F := fun x => .i .i64 (x.1.chrN x.2)) (Q := fun x => onI (fun n => n = x.1.chrN x.2)) gO_ok (noLoops _) 3 Tryd.func33 dBI_ok (fun x y h => onI_out h) p33
end Go.Sx

namespace Go.Sx
open Go.Proofs
set_option linter.unusedVariables false
set_option linter.unusedSimpArgs false
set_option maxRecDepth 100000
/-- Mirror. -/
def Brd.mirN (b : Brd) : Int :=
  if b.valid = true then
    (if b.hard = 4 then 4
    else if b.kind = 1 then (if b.ctrl % 4 = 0 then 2 else if b.ctrl % 4 = 1 then 3 else if b.ctrl % 4 = 2 then 1 else 0)
    else if b.kind = 4 then (if b.turn = 0 then 1 else 0)
    else if b.kind = 7 then (if iand .u8 b.latch 16 = 0 then 2 else 3)
    else b.hard)
  else 0
/-- RamMode. -/
def Brd.ramR (b : Brd) : Int := if b.kind = 1 then (if iand .u8 b.prgR 16 = 0 then 2 else 0) else if b.kind = 4 then (if b.guard = 128 then 2 else if b.guard = 192 then 1 else 0) else 2
def Brd.ramN (b : Brd) : Int := if b.valid = true ∧ b.work = true then b.ramR else 0
theorem p60 (b : Brd) (h : b.fit) : Chk (bodyK (EB gO noLoop) (callN (EB gO noLoop) 3) 60 Tryd.f60 (eB b) [] (fun y _ => onB (y.cl 0) (onU (fun n => n = b.mirN) y))) := by
  constructor
  show bodyK (EB gO noLoop) (callN (EB gO noLoop) 3) 60 Tryd.f60 [b.sv] [] (fun y _ => onB (y.cl 0) (onU (fun n => n = b.mirN) y))
  rw [t60]
  refine ⟨⟨h⟩, ?_⟩
  have hc := h.ctrl
  unfold u8 at hc
  have e : b.ctrl.tmod 4 = b.ctrl % 4 := Int.tmod_eq_emod_of_nonneg hc.1
  rw [e]
  unfold Brd.mirN
  repeat' (refine br_in (fun _ => ?_) (fun _ => ?_))
  all_goals grind
theorem p59 (b : Brd) (h : b.fit) : Chk (bodyK (EB gO noLoop) (callN (EB gO noLoop) 3) 59 Tryd.f59 (eB b) [] (fun y _ => onB (y.cl 0) (onU (fun n => n = b.mirN) y))) := by
  constructor
  show bodyK (EB gO noLoop) (callN (EB gO noLoop) 3) 59 Tryd.f59 [b.sv] [] (fun y _ => onB (y.cl 0) (onU (fun n => n = b.mirN) y))
  rw [t59]
  refine ⟨⟨h⟩, ?_⟩
  have hc := h.ctrl
  have e := and3 hc
  have ht := h.turn
  have hm := fun k v => (@valid_m3 b v k).2.1
  unfold u8 at hc ht
  rw [e]
  unfold Brd.mirN
  have hr : 0 ≤ b.ctrl % 4 ∧ b.ctrl % 4 < 4 := by omega
  generalize b.ctrl % 4 = m at *
  rw [inB_t (by omega), br_t]
  have hL : (((([0, 0, 0, 0].set 0 2).set 1 3).set 2 1).set 3 0 : List Int).getD m.toNat 0 = if m = 0 then 2 else if m = 1 then 3 else if m = 2 then 1 else 0 := by
    have : m = 0 ∨ m = 1 ∨ m = 2 ∨ m = 3 := by omega
    rcases this with rfl | rfl | rfl | rfl <;> rfl
  rw [hL]
  clear hL e
  repeat' (refine br_in (fun _ => ?_) (fun _ => ?_))
  all_goals grind
theorem p63 (b : Brd) (h : b.fit) : Chk (bodyK (EB gO noLoop) (callN (EB gO noLoop) 3) 63 Tryd.f63 (eB b) [] (fun y _ => onB (y.cl 0) (onI (fun n => n = b.ramN) y))) := by
  constructor
  show bodyK (EB gO noLoop) (callN (EB gO noLoop) 3) 63 Tryd.f63 [b.sv] [] (fun y _ => onB (y.cl 0) (onI (fun n => n = b.ramN) y))
  rw [t63]
  refine ⟨⟨h⟩, ?_⟩
  unfold Brd.ramN Brd.ramR
  repeat' (refine br_in (fun _ => ?_) (fun _ => ?_))
  all_goals grind
theorem p62 (b : Brd) (h : b.fit) : Chk (bodyK (EB gO noLoop) (callN (EB gO noLoop) 3) 62 Tryd.f62 (eB b) [] (fun y _ => onB (y.cl 0) (onI (fun n => n = b.ramN) y))) := by
  constructor
  show bodyK (EB gO noLoop) (callN (EB gO noLoop) 3) 62 Tryd.f62 [b.sv] [] (fun y _ => onB (y.cl 0) (onI (fun n => n = b.ramN) y))
  rw [t62]
  have hm := fun k v => and192 h.guard (@valid_m3 b v k).2.2
  unfold Brd.ramN Brd.ramR
  generalize iand .u8 b.guard 192 = q at *
  refine br_in (fun d => ⟨⟨h⟩, ?_⟩) (fun d => ?_)
  all_goals
    repeat' (refine br_in (fun _ => ?_) (fun _ => ?_))
  all_goals grind
def cMir : Con := .pure (preD dB Brd.fit) (onD dB fun b => .i .u8 b.mirN)
def cRam : Con := .pure (preD dB Brd.fit) (onD dB fun b => .i .i64 b.ramN)
theorem onU_out {n : Int} {y : SV} (h : onU (fun m => m = n) y) : y = .i .u8 n := by
  unfold onU at h
  split at h
  · rw [h]
  · exact h.elim
theorem con59 : ConOK (EB gO noLoop) 59 cMir := EBconQ (enc := eB) (p := Brd.fit) (F := fun b => .i .u8 b.mirN) (Q := fun b => onU (fun n => n = b.mirN)) gO_ok (noLoops _) 3 Tryd.func59 dB_ok (fun x y h => onU_out h) p59
theorem con60 : ConOK (EB gO noLoop) 60 cMir := EBconQ (enc := eB) (p := Brd.fit) (F := fun b => .i .u8 b.mirN) (Q := fun b => onU (fun n => n = b.mirN)) gO_ok (noLoops _) 3 Tryd.func60 dB_ok (fun x y h => onU_out h) p60
theorem con62 : ConOK (EB gO noLoop) 62 cRam := EBconQ (enc := eB) (p := Brd.fit) (F := fun b => .i .i64 b.ramN) (Q := fun b => onI (fun n => n = b.ramN)) gO_ok (noLoops _) 3 Tryd.func62 dB_ok (fun x y h => onI_out h) p62
theorem con63 : ConOK (EB gO noLoop) 63 cRam := EBconQ (enc := eB) (p := Brd.fit) (F := fun b => .i .i64 b.ramN) (Q := fun b => onI (fun n => n = b.ramN)) gO_ok (noLoops _) 3 Tryd.func63 dB_ok (fun x y h => onI_out h) p63
def hA : List (Nat × Con) := (33, cSlotN) :: (59, cMir) :: (60, cMir) :: (62, cRam) :: (63, cRam) :: (109, cSlot Brd.mmc1C) :: (125, cSlot Brd.cnC) :: (128, cSlot Brd.mmc3C) :: gO
theorem hA_ok : GamOK (EB hA noLoop) := gam_ok rfl ⟨con33.of, con59.of, con60.of, con62.of, con63.of, con109.of, con125.of, con128.of, con30.of, con31.of, con108.of, con118.of, con127.of, con135.of, con27.of, con28.of, con133.of, con25.of, con26.of, con129.of, con56.of, con131.of, con24.of, con19.of, con20.of, con21.of, con41.of, con22.of, con23.of, con50.of, con51.of, con52.of, con53.of, trivial⟩
end Go.Sx

namespace Go.Sx
open Go.Proofs
set_option linter.unusedVariables false
set_option linter.unusedSimpArgs false
set_option maxRecDepth 100000

theorem t32 (b : Brd) (w : Int) (Z : Int → Prop) : (bodyK (EB hA noLoop) (callN (EB hA noLoop) 3) 32 Tryd.f32 [b.sv, .i .i64 w] [] (fun y _ => onB (y.cl 0) (onI Z y))) = (
  br (!(decide (w < 0) || decide (7 < w)) && true)
  (Chk b.fit ∧
    br (decide (w < 0) || decide (7 < w) || !b.valid) (Z (-1))
      (br (b.kind == 1)
        (Chk (okSlot b w) ∧
          br (!decide (b.chr = 0))
            (SV.i IntKind.i64 b.chr = SV.i IntKind.i64 b.chr ∧
              SV.i IntKind.i64 b.chr = SV.i IntKind.i64 b.chr ∧
                SV.agg
                      (SVs.cons (SV.i IntKind.i64 b.kind)
                        (SVs.cons (SV.i IntKind.i64 b.sub)
                          (SVs.cons (SV.i IntKind.u8 b.hard)
                            (SVs.cons (SV.b b.work)
                              (SVs.cons (SV.i IntKind.i64 b.prg)
                                (SVs.cons (SV.i IntKind.i64 b.chr)
                                  (SVs.cons (SV.b b.cram)
                                    (SVs.cons (SV.i IntKind.u8 b.shift)
                                      (SVs.cons (SV.i IntKind.u8 b.ctrl)
                                        (SVs.cons (SV.i IntKind.u8 b.chrA)
                                          (SVs.cons (SV.i IntKind.u8 b.chrB)
                                            (SVs.cons (SV.i IntKind.u8 b.prgR)
                                              (SVs.cons (SV.i IntKind.i64 b.last)
                                                (SVs.cons (SV.i IntKind.u8 b.latch)
                                                  (SVs.cons (SV.i IntKind.u8 b.sel)
                                                    (SVs.cons (SV.arr IntKind.u8 8 b.rs) (SVs.cons (SV.i IntKind.u8 b.turn) (SVs.cons (SV.i IntKind.u8 b.guard) (SVs.cons (SV.i IntKind.u8 b.iLatch) (SVs.cons (SV.i IntKind.u8 b.iCount) (SVs.cons (SV.b b.iLoad) (SVs.cons (SV.b b.iOn) (SVs.cons (SV.b b.irq) (SVs.cons (SV.i IntKind.i64 b.epoch) SVs.nil)))))))))))))))))))))))) =
                    b.sv ∧
                  SV.agg
                        (SVs.cons (SV.i IntKind.i64 b.kind)
                          (SVs.cons (SV.i IntKind.i64 b.sub)
                            (SVs.cons (SV.i IntKind.u8 b.hard)
                              (SVs.cons (SV.b b.work)
                                (SVs.cons (SV.i IntKind.i64 b.prg)
                                  (SVs.cons (SV.i IntKind.i64 b.chr)
                                    (SVs.cons (SV.b b.cram)
                                      (SVs.cons (SV.i IntKind.u8 b.shift)
                                        (SVs.cons (SV.i IntKind.u8 b.ctrl)
                                          (SVs.cons (SV.i IntKind.u8 b.chrA)
                                            (SVs.cons (SV.i IntKind.u8 b.chrB)
                                              (SVs.cons (SV.i IntKind.u8 b.prgR)
                                                (SVs.cons (SV.i IntKind.i64 b.last)
                                                  (SVs.cons (SV.i IntKind.u8 b.latch)
                                                    (SVs.cons (SV.i IntKind.u8 b.sel)
                                                      (SVs.cons (SV.arr IntKind.u8 8 b.rs) (SVs.cons (SV.i IntKind.u8 b.turn) (SVs.cons (SV.i IntKind.u8 b.guard) (SVs.cons (SV.i IntKind.u8 b.iLatch) (SVs.cons (SV.i IntKind.u8 b.iCount) (SVs.cons (SV.b b.iLoad) (SVs.cons (SV.b b.iOn) (SVs.cons (SV.b b.irq) (SVs.cons (SV.i IntKind.i64 b.epoch) SVs.nil)))))))))))))))))))))))) =
                      b.sv ∧
                    Z ((b.mmc1C w).tmod b.chr))
            False)
        (br (b.kind == 2)
          (br (!decide (b.chr = 0))
            (SV.i IntKind.i64 b.chr = SV.i IntKind.i64 b.chr ∧
              SV.i IntKind.i64 b.chr = SV.i IntKind.i64 b.chr ∧
                SV.agg
                      (SVs.cons (SV.i IntKind.i64 b.kind)
                        (SVs.cons (SV.i IntKind.i64 b.sub)
                          (SVs.cons (SV.i IntKind.u8 b.hard)
                            (SVs.cons (SV.b b.work)
                              (SVs.cons (SV.i IntKind.i64 b.prg)
                                (SVs.cons (SV.i IntKind.i64 b.chr)
                                  (SVs.cons (SV.b b.cram)
                                    (SVs.cons (SV.i IntKind.u8 b.shift)
                                      (SVs.cons (SV.i IntKind.u8 b.ctrl)
                                        (SVs.cons (SV.i IntKind.u8 b.chrA)
                                          (SVs.cons (SV.i IntKind.u8 b.chrB)
                                            (SVs.cons (SV.i IntKind.u8 b.prgR)
                                              (SVs.cons (SV.i IntKind.i64 b.last)
                                                (SVs.cons (SV.i IntKind.u8 b.latch)
                                                  (SVs.cons (SV.i IntKind.u8 b.sel)
                                                    (SVs.cons (SV.arr IntKind.u8 8 b.rs) (SVs.cons (SV.i IntKind.u8 b.turn) (SVs.cons (SV.i IntKind.u8 b.guard) (SVs.cons (SV.i IntKind.u8 b.iLatch) (SVs.cons (SV.i IntKind.u8 b.iCount) (SVs.cons (SV.b b.iLoad) (SVs.cons (SV.b b.iOn) (SVs.cons (SV.b b.irq) (SVs.cons (SV.i IntKind.i64 b.epoch) SVs.nil)))))))))))))))))))))))) =
                    b.sv ∧
                  SV.agg
                        (SVs.cons (SV.i IntKind.i64 b.kind)
                          (SVs.cons (SV.i IntKind.i64 b.sub)
                            (SVs.cons (SV.i IntKind.u8 b.hard)
                              (SVs.cons (SV.b b.work)
                                (SVs.cons (SV.i IntKind.i64 b.prg)
                                  (SVs.cons (SV.i IntKind.i64 b.chr)
                                    (SVs.cons (SV.b b.cram)
                                      (SVs.cons (SV.i IntKind.u8 b.shift)
                                        (SVs.cons (SV.i IntKind.u8 b.ctrl)
                                          (SVs.cons (SV.i IntKind.u8 b.chrA)
                                            (SVs.cons (SV.i IntKind.u8 b.chrB)
                                              (SVs.cons (SV.i IntKind.u8 b.prgR)
                                                (SVs.cons (SV.i IntKind.i64 b.last)
                                                  (SVs.cons (SV.i IntKind.u8 b.latch)
                                                    (SVs.cons (SV.i IntKind.u8 b.sel)
                                                      (SVs.cons (SV.arr IntKind.u8 8 b.rs) (SVs.cons (SV.i IntKind.u8 b.turn) (SVs.cons (SV.i IntKind.u8 b.guard) (SVs.cons (SV.i IntKind.u8 b.iLatch) (SVs.cons (SV.i IntKind.u8 b.iCount) (SVs.cons (SV.b b.iLoad) (SVs.cons (SV.b b.iOn) (SVs.cons (SV.b b.irq) (SVs.cons (SV.i IntKind.i64 b.epoch) SVs.nil)))))))))))))))))))))))) =
                      b.sv ∧
                    Z (w.tmod b.chr))
            False)
          (br (b.kind == 3)
            (Chk (okSlot b w) ∧
              br (!decide (b.chr = 0))
                (SV.i IntKind.i64 b.chr = SV.i IntKind.i64 b.chr ∧
                  SV.i IntKind.i64 b.chr = SV.i IntKind.i64 b.chr ∧
                    SV.agg
                          (SVs.cons (SV.i IntKind.i64 b.kind)
                            (SVs.cons (SV.i IntKind.i64 b.sub)
                              (SVs.cons (SV.i IntKind.u8 b.hard)
                                (SVs.cons (SV.b b.work)
                                  (SVs.cons (SV.i IntKind.i64 b.prg)
                                    (SVs.cons (SV.i IntKind.i64 b.chr)
                                      (SVs.cons (SV.b b.cram)
                                        (SVs.cons (SV.i IntKind.u8 b.shift)
                                          (SVs.cons (SV.i IntKind.u8 b.ctrl)
                                            (SVs.cons (SV.i IntKind.u8 b.chrA)
                                              (SVs.cons (SV.i IntKind.u8 b.chrB)
                                                (SVs.cons (SV.i IntKind.u8 b.prgR)
                                                  (SVs.cons (SV.i IntKind.i64 b.last)
                                                    (SVs.cons (SV.i IntKind.u8 b.latch)
                                                      (SVs.cons (SV.i IntKind.u8 b.sel)
                                                        (SVs.cons (SV.arr IntKind.u8 8 b.rs) (SVs.cons (SV.i IntKind.u8 b.turn) (SVs.cons (SV.i IntKind.u8 b.guard) (SVs.cons (SV.i IntKind.u8 b.iLatch) (SVs.cons (SV.i IntKind.u8 b.iCount) (SVs.cons (SV.b b.iLoad) (SVs.cons (SV.b b.iOn) (SVs.cons (SV.b b.irq) (SVs.cons (SV.i IntKind.i64 b.epoch) SVs.nil)))))))))))))))))))))))) =
                        b.sv ∧
                      SV.agg
                            (SVs.cons (SV.i IntKind.i64 b.kind)
                              (SVs.cons (SV.i IntKind.i64 b.sub)
                                (SVs.cons (SV.i IntKind.u8 b.hard)
                                  (SVs.cons (SV.b b.work)
                                    (SVs.cons (SV.i IntKind.i64 b.prg)
                                      (SVs.cons (SV.i IntKind.i64 b.chr)
                                        (SVs.cons (SV.b b.cram)
                                          (SVs.cons (SV.i IntKind.u8 b.shift)
                                            (SVs.cons (SV.i IntKind.u8 b.ctrl)
                                              (SVs.cons (SV.i IntKind.u8 b.chrA)
                                                (SVs.cons (SV.i IntKind.u8 b.chrB)
                                                  (SVs.cons (SV.i IntKind.u8 b.prgR)
                                                    (SVs.cons (SV.i IntKind.i64 b.last)
                                                      (SVs.cons (SV.i IntKind.u8 b.latch)
                                                        (SVs.cons (SV.i IntKind.u8 b.sel)
                                                          (SVs.cons (SV.arr IntKind.u8 8 b.rs) (SVs.cons (SV.i IntKind.u8 b.turn) (SVs.cons (SV.i IntKind.u8 b.guard) (SVs.cons (SV.i IntKind.u8 b.iLatch) (SVs.cons (SV.i IntKind.u8 b.iCount) (SVs.cons (SV.b b.iLoad) (SVs.cons (SV.b b.iOn) (SVs.cons (SV.b b.irq) (SVs.cons (SV.i IntKind.i64 b.epoch) SVs.nil)))))))))))))))))))))))) =
                          b.sv ∧
                        Z ((b.cnC w).tmod b.chr))
                False)
            (br (b.kind == 4)
              (Chk (okSlot b w) ∧
                br (!decide (b.chr = 0))
                  (SV.i IntKind.i64 b.chr = SV.i IntKind.i64 b.chr ∧
                    SV.i IntKind.i64 b.chr = SV.i IntKind.i64 b.chr ∧
                      SV.agg
                            (SVs.cons (SV.i IntKind.i64 b.kind)
                              (SVs.cons (SV.i IntKind.i64 b.sub)
                                (SVs.cons (SV.i IntKind.u8 b.hard)
                                  (SVs.cons (SV.b b.work)
                                    (SVs.cons (SV.i IntKind.i64 b.prg)
                                      (SVs.cons (SV.i IntKind.i64 b.chr)
                                        (SVs.cons (SV.b b.cram)
                                          (SVs.cons (SV.i IntKind.u8 b.shift)
                                            (SVs.cons (SV.i IntKind.u8 b.ctrl)
                                              (SVs.cons (SV.i IntKind.u8 b.chrA)
                                                (SVs.cons (SV.i IntKind.u8 b.chrB)
                                                  (SVs.cons (SV.i IntKind.u8 b.prgR)
                                                    (SVs.cons (SV.i IntKind.i64 b.last)
                                                      (SVs.cons (SV.i IntKind.u8 b.latch)
                                                        (SVs.cons (SV.i IntKind.u8 b.sel)
                                                          (SVs.cons (SV.arr IntKind.u8 8 b.rs) (SVs.cons (SV.i IntKind.u8 b.turn) (SVs.cons (SV.i IntKind.u8 b.guard) (SVs.cons (SV.i IntKind.u8 b.iLatch) (SVs.cons (SV.i IntKind.u8 b.iCount) (SVs.cons (SV.b b.iLoad) (SVs.cons (SV.b b.iOn) (SVs.cons (SV.b b.irq) (SVs.cons (SV.i IntKind.i64 b.epoch) SVs.nil)))))))))))))))))))))))) =
                          b.sv ∧
                        SV.agg
                              (SVs.cons (SV.i IntKind.i64 b.kind)
                                (SVs.cons (SV.i IntKind.i64 b.sub)
                                  (SVs.cons (SV.i IntKind.u8 b.hard)
                                    (SVs.cons (SV.b b.work)
                                      (SVs.cons (SV.i IntKind.i64 b.prg)
                                        (SVs.cons (SV.i IntKind.i64 b.chr)
                                          (SVs.cons (SV.b b.cram)
                                            (SVs.cons (SV.i IntKind.u8 b.shift)
                                              (SVs.cons (SV.i IntKind.u8 b.ctrl)
                                                (SVs.cons (SV.i IntKind.u8 b.chrA)
                                                  (SVs.cons (SV.i IntKind.u8 b.chrB)
                                                    (SVs.cons (SV.i IntKind.u8 b.prgR)
                                                      (SVs.cons (SV.i IntKind.i64 b.last)
                                                        (SVs.cons (SV.i IntKind.u8 b.latch)
                                                          (SVs.cons (SV.i IntKind.u8 b.sel)
                                                            (SVs.cons (SV.arr IntKind.u8 8 b.rs) (SVs.cons (SV.i IntKind.u8 b.turn) (SVs.cons (SV.i IntKind.u8 b.guard) (SVs.cons (SV.i IntKind.u8 b.iLatch) (SVs.cons (SV.i IntKind.u8 b.iCount) (SVs.cons (SV.b b.iLoad) (SVs.cons (SV.b b.iOn) (SVs.cons (SV.b b.irq) (SVs.cons (SV.i IntKind.i64 b.epoch) SVs.nil)))))))))))))))))))))))) =
                            b.sv ∧
                          Z ((b.mmc3C w).tmod b.chr))
                  False)
              (br (b.kind == 7)
                (br (!decide (b.chr = 0))
                  (SV.i IntKind.i64 b.chr = SV.i IntKind.i64 b.chr ∧
                    SV.i IntKind.i64 b.chr = SV.i IntKind.i64 b.chr ∧
                      SV.agg
                            (SVs.cons (SV.i IntKind.i64 b.kind)
                              (SVs.cons (SV.i IntKind.i64 b.sub)
                                (SVs.cons (SV.i IntKind.u8 b.hard)
                                  (SVs.cons (SV.b b.work)
                                    (SVs.cons (SV.i IntKind.i64 b.prg)
                                      (SVs.cons (SV.i IntKind.i64 b.chr)
                                        (SVs.cons (SV.b b.cram)
                                          (SVs.cons (SV.i IntKind.u8 b.shift)
                                            (SVs.cons (SV.i IntKind.u8 b.ctrl)
                                              (SVs.cons (SV.i IntKind.u8 b.chrA)
                                                (SVs.cons (SV.i IntKind.u8 b.chrB)
                                                  (SVs.cons (SV.i IntKind.u8 b.prgR)
                                                    (SVs.cons (SV.i IntKind.i64 b.last)
                                                      (SVs.cons (SV.i IntKind.u8 b.latch)
                                                        (SVs.cons (SV.i IntKind.u8 b.sel)
                                                          (SVs.cons (SV.arr IntKind.u8 8 b.rs) (SVs.cons (SV.i IntKind.u8 b.turn) (SVs.cons (SV.i IntKind.u8 b.guard) (SVs.cons (SV.i IntKind.u8 b.iLatch) (SVs.cons (SV.i IntKind.u8 b.iCount) (SVs.cons (SV.b b.iLoad) (SVs.cons (SV.b b.iOn) (SVs.cons (SV.b b.irq) (SVs.cons (SV.i IntKind.i64 b.epoch) SVs.nil)))))))))))))))))))))))) =
                          b.sv ∧
                        SV.agg
                              (SVs.cons (SV.i IntKind.i64 b.kind)
                                (SVs.cons (SV.i IntKind.i64 b.sub)
                                  (SVs.cons (SV.i IntKind.u8 b.hard)
                                    (SVs.cons (SV.b b.work)
                                      (SVs.cons (SV.i IntKind.i64 b.prg)
                                        (SVs.cons (SV.i IntKind.i64 b.chr)
                                          (SVs.cons (SV.b b.cram)
                                            (SVs.cons (SV.i IntKind.u8 b.shift)
                                              (SVs.cons (SV.i IntKind.u8 b.ctrl)
                                                (SVs.cons (SV.i IntKind.u8 b.chrA)
                                                  (SVs.cons (SV.i IntKind.u8 b.chrB)
                                                    (SVs.cons (SV.i IntKind.u8 b.prgR)
                                                      (SVs.cons (SV.i IntKind.i64 b.last)
                                                        (SVs.cons (SV.i IntKind.u8 b.latch)
                                                          (SVs.cons (SV.i IntKind.u8 b.sel)
                                                            (SVs.cons (SV.arr IntKind.u8 8 b.rs) (SVs.cons (SV.i IntKind.u8 b.turn) (SVs.cons (SV.i IntKind.u8 b.guard) (SVs.cons (SV.i IntKind.u8 b.iLatch) (SVs.cons (SV.i IntKind.u8 b.iCount) (SVs.cons (SV.b b.iLoad) (SVs.cons (SV.b b.iOn) (SVs.cons (SV.b b.irq) (SVs.cons (SV.i IntKind.i64 b.epoch) SVs.nil)))))))))))))))))))))))) =
                            b.sv ∧
                          Z (w.tmod b.chr))
                  False)
                (br (!decide (b.chr = 0))
                  (SV.i IntKind.i64 b.chr = SV.i IntKind.i64 b.chr ∧
                    SV.i IntKind.i64 b.chr = SV.i IntKind.i64 b.chr ∧
                      SV.agg
                            (SVs.cons (SV.i IntKind.i64 b.kind)
                              (SVs.cons (SV.i IntKind.i64 b.sub)
                                (SVs.cons (SV.i IntKind.u8 b.hard)
                                  (SVs.cons (SV.b b.work)
                                    (SVs.cons (SV.i IntKind.i64 b.prg)
                                      (SVs.cons (SV.i IntKind.i64 b.chr)
                                        (SVs.cons (SV.b b.cram)
                                          (SVs.cons (SV.i IntKind.u8 b.shift)
                                            (SVs.cons (SV.i IntKind.u8 b.ctrl)
                                              (SVs.cons (SV.i IntKind.u8 b.chrA)
                                                (SVs.cons (SV.i IntKind.u8 b.chrB)
                                                  (SVs.cons (SV.i IntKind.u8 b.prgR)
                                                    (SVs.cons (SV.i IntKind.i64 b.last)
                                                      (SVs.cons (SV.i IntKind.u8 b.latch)
                                                        (SVs.cons (SV.i IntKind.u8 b.sel)
                                                          (SVs.cons (SV.arr IntKind.u8 8 b.rs) (SVs.cons (SV.i IntKind.u8 b.turn) (SVs.cons (SV.i IntKind.u8 b.guard) (SVs.cons (SV.i IntKind.u8 b.iLatch) (SVs.cons (SV.i IntKind.u8 b.iCount) (SVs.cons (SV.b b.iLoad) (SVs.cons (SV.b b.iOn) (SVs.cons (SV.b b.irq) (SVs.cons (SV.i IntKind.i64 b.epoch) SVs.nil)))))))))))))))))))))))) =
                          b.sv ∧
                        SV.agg
                              (SVs.cons (SV.i IntKind.i64 b.kind)
                                (SVs.cons (SV.i IntKind.i64 b.sub)
                                  (SVs.cons (SV.i IntKind.u8 b.hard)
                                    (SVs.cons (SV.b b.work)
                                      (SVs.cons (SV.i IntKind.i64 b.prg)
                                        (SVs.cons (SV.i IntKind.i64 b.chr)
                                          (SVs.cons (SV.b b.cram)
                                            (SVs.cons (SV.i IntKind.u8 b.shift)
                                              (SVs.cons (SV.i IntKind.u8 b.ctrl)
                                                (SVs.cons (SV.i IntKind.u8 b.chrA)
                                                  (SVs.cons (SV.i IntKind.u8 b.chrB)
                                                    (SVs.cons (SV.i IntKind.u8 b.prgR)
                                                      (SVs.cons (SV.i IntKind.i64 b.last)
                                                        (SVs.cons (SV.i IntKind.u8 b.latch)
                                                          (SVs.cons (SV.i IntKind.u8 b.sel)
                                                            (SVs.cons (SV.arr IntKind.u8 8 b.rs) (SVs.cons (SV.i IntKind.u8 b.turn) (SVs.cons (SV.i IntKind.u8 b.guard) (SVs.cons (SV.i IntKind.u8 b.iLatch) (SVs.cons (SV.i IntKind.u8 b.iCount) (SVs.cons (SV.b b.iLoad) (SVs.cons (SV.b b.iOn) (SVs.cons (SV.b b.irq) (SVs.cons (SV.i IntKind.i64 b.epoch) SVs.nil)))))))))))))))))))))))) =
                            b.sv ∧
                          Z (w.tmod b.chr))
                  False)))))))
  (br (decide (w < 0) || decide (7 < w) || !false) (Z (-1))
    (br (b.kind == 1)
      (Chk (okSlot b w) ∧
        br (!decide (b.chr = 0))
          (SV.i IntKind.i64 b.chr = SV.i IntKind.i64 b.chr ∧
            SV.i IntKind.i64 b.chr = SV.i IntKind.i64 b.chr ∧
              SV.agg
                    (SVs.cons (SV.i IntKind.i64 b.kind)
                      (SVs.cons (SV.i IntKind.i64 b.sub)
                        (SVs.cons (SV.i IntKind.u8 b.hard)
                          (SVs.cons (SV.b b.work)
                            (SVs.cons (SV.i IntKind.i64 b.prg)
                              (SVs.cons (SV.i IntKind.i64 b.chr)
                                (SVs.cons (SV.b b.cram)
                                  (SVs.cons (SV.i IntKind.u8 b.shift)
                                    (SVs.cons (SV.i IntKind.u8 b.ctrl)
                                      (SVs.cons (SV.i IntKind.u8 b.chrA)
                                        (SVs.cons (SV.i IntKind.u8 b.chrB)
                                          (SVs.cons (SV.i IntKind.u8 b.prgR)
                                            (SVs.cons (SV.i IntKind.i64 b.last)
                                              (SVs.cons (SV.i IntKind.u8 b.latch)
                                                (SVs.cons (SV.i IntKind.u8 b.sel)
                                                  (SVs.cons (SV.arr IntKind.u8 8 b.rs) (SVs.cons (SV.i IntKind.u8 b.turn) (SVs.cons (SV.i IntKind.u8 b.guard) (SVs.cons (SV.i IntKind.u8 b.iLatch) (SVs.cons (SV.i IntKind.u8 b.iCount) (SVs.cons (SV.b b.iLoad) (SVs.cons (SV.b b.iOn) (SVs.cons (SV.b b.irq) (SVs.cons (SV.i IntKind.i64 b.epoch) SVs.nil)))))))))))))))))))))))) =
                  b.sv ∧
                SV.agg
                      (SVs.cons (SV.i IntKind.i64 b.kind)
                        (SVs.cons (SV.i IntKind.i64 b.sub)
                          (SVs.cons (SV.i IntKind.u8 b.hard)
                            (SVs.cons (SV.b b.work)
                              (SVs.cons (SV.i IntKind.i64 b.prg)
                                (SVs.cons (SV.i IntKind.i64 b.chr)
                                  (SVs.cons (SV.b b.cram)
                                    (SVs.cons (SV.i IntKind.u8 b.shift)
                                      (SVs.cons (SV.i IntKind.u8 b.ctrl)
                                        (SVs.cons (SV.i IntKind.u8 b.chrA)
                                          (SVs.cons (SV.i IntKind.u8 b.chrB)
                                            (SVs.cons (SV.i IntKind.u8 b.prgR)
                                              (SVs.cons (SV.i IntKind.i64 b.last)
                                                (SVs.cons (SV.i IntKind.u8 b.latch)
                                                  (SVs.cons (SV.i IntKind.u8 b.sel)
                                                    (SVs.cons (SV.arr IntKind.u8 8 b.rs) (SVs.cons (SV.i IntKind.u8 b.turn) (SVs.cons (SV.i IntKind.u8 b.guard) (SVs.cons (SV.i IntKind.u8 b.iLatch) (SVs.cons (SV.i IntKind.u8 b.iCount) (SVs.cons (SV.b b.iLoad) (SVs.cons (SV.b b.iOn) (SVs.cons (SV.b b.irq) (SVs.cons (SV.i IntKind.i64 b.epoch) SVs.nil)))))))))))))))))))))))) =
                    b.sv ∧
                  Z ((b.mmc1C w).tmod b.chr))
          False)
      (br (b.kind == 2)
        (br (!decide (b.chr = 0))
          (SV.i IntKind.i64 b.chr = SV.i IntKind.i64 b.chr ∧
            SV.i IntKind.i64 b.chr = SV.i IntKind.i64 b.chr ∧
              SV.agg
                    (SVs.cons (SV.i IntKind.i64 b.kind)
                      (SVs.cons (SV.i IntKind.i64 b.sub)
                        (SVs.cons (SV.i IntKind.u8 b.hard)
                          (SVs.cons (SV.b b.work)
                            (SVs.cons (SV.i IntKind.i64 b.prg)
                              (SVs.cons (SV.i IntKind.i64 b.chr)
                                (SVs.cons (SV.b b.cram)
                                  (SVs.cons (SV.i IntKind.u8 b.shift)
                                    (SVs.cons (SV.i IntKind.u8 b.ctrl)
                                      (SVs.cons (SV.i IntKind.u8 b.chrA)
                                        (SVs.cons (SV.i IntKind.u8 b.chrB)
                                          (SVs.cons (SV.i IntKind.u8 b.prgR)
                                            (SVs.cons (SV.i IntKind.i64 b.last)
                                              (SVs.cons (SV.i IntKind.u8 b.latch)
                                                (SVs.cons (SV.i IntKind.u8 b.sel)
                                                  (SVs.cons (SV.arr IntKind.u8 8 b.rs) (SVs.cons (SV.i IntKind.u8 b.turn) (SVs.cons (SV.i IntKind.u8 b.guard) (SVs.cons (SV.i IntKind.u8 b.iLatch) (SVs.cons (SV.i IntKind.u8 b.iCount) (SVs.cons (SV.b b.iLoad) (SVs.cons (SV.b b.iOn) (SVs.cons (SV.b b.irq) (SVs.cons (SV.i IntKind.i64 b.epoch) SVs.nil)))))))))))))))))))))))) =
                  b.sv ∧
                SV.agg
                      (SVs.cons (SV.i IntKind.i64 b.kind)
                        (SVs.cons (SV.i IntKind.i64 b.sub)
                          (SVs.cons (SV.i IntKind.u8 b.hard)
                            (SVs.cons (SV.b b.work)
                              (SVs.cons (SV.i IntKind.i64 b.prg)
                                (SVs.cons (SV.i IntKind.i64 b.chr)
                                  (SVs.cons (SV.b b.cram)
                                    (SVs.cons (SV.i IntKind.u8 b.shift)
                                      (SVs.cons (SV.i IntKind.u8 b.ctrl)
                                        (SVs.cons (SV.i IntKind.u8 b.chrA)
                                          (SVs.cons (SV.i IntKind.u8 b.chrB)
                                            (SVs.cons (SV.i IntKind.u8 b.prgR)
                                              (SVs.cons (SV.i IntKind.i64 b.last)
                                                (SVs.cons (SV.i IntKind.u8 b.latch)
                                                  (SVs.cons (SV.i IntKind.u8 b.sel)
                                                    (SVs.cons (SV.arr IntKind.u8 8 b.rs) (SVs.cons (SV.i IntKind.u8 b.turn) (SVs.cons (SV.i IntKind.u8 b.guard) (SVs.cons (SV.i IntKind.u8 b.iLatch) (SVs.cons (SV.i IntKind.u8 b.iCount) (SVs.cons (SV.b b.iLoad) (SVs.cons (SV.b b.iOn) (SVs.cons (SV.b b.irq) (SVs.cons (SV.i IntKind.i64 b.epoch) SVs.nil)))))))))))))))))))))))) =
                    b.sv ∧
                  Z (w.tmod b.chr))
          False)
        (br (b.kind == 3)
          (Chk (okSlot b w) ∧
            br (!decide (b.chr = 0))
              (SV.i IntKind.i64 b.chr = SV.i IntKind.i64 b.chr ∧
                SV.i IntKind.i64 b.chr = SV.i IntKind.i64 b.chr ∧
                  SV.agg
                        (SVs.cons (SV.i IntKind.i64 b.kind)
                          (SVs.cons (SV.i IntKind.i64 b.sub)
                            (SVs.cons (SV.i IntKind.u8 b.hard)
                              (SVs.cons (SV.b b.work)
                                (SVs.cons (SV.i IntKind.i64 b.prg)
                                  (SVs.cons (SV.i IntKind.i64 b.chr)
                                    (SVs.cons (SV.b b.cram)
                                      (SVs.cons (SV.i IntKind.u8 b.shift)
                                        (SVs.cons (SV.i IntKind.u8 b.ctrl)
                                          (SVs.cons (SV.i IntKind.u8 b.chrA)
                                            (SVs.cons (SV.i IntKind.u8 b.chrB)
                                              (SVs.cons (SV.i IntKind.u8 b.prgR)
                                                (SVs.cons (SV.i IntKind.i64 b.last)
                                                  (SVs.cons (SV.i IntKind.u8 b.latch)
                                                    (SVs.cons (SV.i IntKind.u8 b.sel)
                                                      (SVs.cons (SV.arr IntKind.u8 8 b.rs) (SVs.cons (SV.i IntKind.u8 b.turn) (SVs.cons (SV.i IntKind.u8 b.guard) (SVs.cons (SV.i IntKind.u8 b.iLatch) (SVs.cons (SV.i IntKind.u8 b.iCount) (SVs.cons (SV.b b.iLoad) (SVs.cons (SV.b b.iOn) (SVs.cons (SV.b b.irq) (SVs.cons (SV.i IntKind.i64 b.epoch) SVs.nil)))))))))))))))))))))))) =
                      b.sv ∧
                    SV.agg
                          (SVs.cons (SV.i IntKind.i64 b.kind)
                            (SVs.cons (SV.i IntKind.i64 b.sub)
                              (SVs.cons (SV.i IntKind.u8 b.hard)
                                (SVs.cons (SV.b b.work)
                                  (SVs.cons (SV.i IntKind.i64 b.prg)
                                    (SVs.cons (SV.i IntKind.i64 b.chr)
                                      (SVs.cons (SV.b b.cram)
                                        (SVs.cons (SV.i IntKind.u8 b.shift)
                                          (SVs.cons (SV.i IntKind.u8 b.ctrl)
                                            (SVs.cons (SV.i IntKind.u8 b.chrA)
                                              (SVs.cons (SV.i IntKind.u8 b.chrB)
                                                (SVs.cons (SV.i IntKind.u8 b.prgR)
                                                  (SVs.cons (SV.i IntKind.i64 b.last)
                                                    (SVs.cons (SV.i IntKind.u8 b.latch)
                                                      (SVs.cons (SV.i IntKind.u8 b.sel)
                                                        (SVs.cons (SV.arr IntKind.u8 8 b.rs) (SVs.cons (SV.i IntKind.u8 b.turn) (SVs.cons (SV.i IntKind.u8 b.guard) (SVs.cons (SV.i IntKind.u8 b.iLatch) (SVs.cons (SV.i IntKind.u8 b.iCount) (SVs.cons (SV.b b.iLoad) (SVs.cons (SV.b b.iOn) (SVs.cons (SV.b b.irq) (SVs.cons (SV.i IntKind.i64 b.epoch) SVs.nil)))))))))))))))))))))))) =
                        b.sv ∧
                      Z ((b.cnC w).tmod b.chr))
              False)
          (br (b.kind == 4)
            (Chk (okSlot b w) ∧
              br (!decide (b.chr = 0))
                (SV.i IntKind.i64 b.chr = SV.i IntKind.i64 b.chr ∧
                  SV.i IntKind.i64 b.chr = SV.i IntKind.i64 b.chr ∧
                    SV.agg
                          (SVs.cons (SV.i IntKind.i64 b.kind)
                            (SVs.cons (SV.i IntKind.i64 b.sub)
                              (SVs.cons (SV.i IntKind.u8 b.hard)
                                (SVs.cons (SV.b b.work)
                                  (SVs.cons (SV.i IntKind.i64 b.prg)
                                    (SVs.cons (SV.i IntKind.i64 b.chr)
                                      (SVs.cons (SV.b b.cram)
                                        (SVs.cons (SV.i IntKind.u8 b.shift)
                                          (SVs.cons (SV.i IntKind.u8 b.ctrl)
                                            (SVs.cons (SV.i IntKind.u8 b.chrA)
                                              (SVs.cons (SV.i IntKind.u8 b.chrB)
                                                (SVs.cons (SV.i IntKind.u8 b.prgR)
                                                  (SVs.cons (SV.i IntKind.i64 b.last)
                                                    (SVs.cons (SV.i IntKind.u8 b.latch)
                                                      (SVs.cons (SV.i IntKind.u8 b.sel)
                                                        (SVs.cons (SV.arr IntKind.u8 8 b.rs) (SVs.cons (SV.i IntKind.u8 b.turn) (SVs.cons (SV.i IntKind.u8 b.guard) (SVs.cons (SV.i IntKind.u8 b.iLatch) (SVs.cons (SV.i IntKind.u8 b.iCount) (SVs.cons (SV.b b.iLoad) (SVs.cons (SV.b b.iOn) (SVs.cons (SV.b b.irq) (SVs.cons (SV.i IntKind.i64 b.epoch) SVs.nil)))))))))))))))))))))))) =
                        b.sv ∧
                      SV.agg
                            (SVs.cons (SV.i IntKind.i64 b.kind)
                              (SVs.cons (SV.i IntKind.i64 b.sub)
                                (SVs.cons (SV.i IntKind.u8 b.hard)
                                  (SVs.cons (SV.b b.work)
                                    (SVs.cons (SV.i IntKind.i64 b.prg)
                                      (SVs.cons (SV.i IntKind.i64 b.chr)
                                        (SVs.cons (SV.b b.cram)
                                          (SVs.cons (SV.i IntKind.u8 b.shift)
                                            (SVs.cons (SV.i IntKind.u8 b.ctrl)
                                              (SVs.cons (SV.i IntKind.u8 b.chrA)
                                                (SVs.cons (SV.i IntKind.u8 b.chrB)
                                                  (SVs.cons (SV.i IntKind.u8 b.prgR)
                                                    (SVs.cons (SV.i IntKind.i64 b.last)
                                                      (SVs.cons (SV.i IntKind.u8 b.latch)
                                                        (SVs.cons (SV.i IntKind.u8 b.sel)
                                                          (SVs.cons (SV.arr IntKind.u8 8 b.rs) (SVs.cons (SV.i IntKind.u8 b.turn) (SVs.cons (SV.i IntKind.u8 b.guard) (SVs.cons (SV.i IntKind.u8 b.iLatch) (SVs.cons (SV.i IntKind.u8 b.iCount) (SVs.cons (SV.b b.iLoad) (SVs.cons (SV.b b.iOn) (SVs.cons (SV.b b.irq) (SVs.cons (SV.i IntKind.i64 b.epoch) SVs.nil)))))))))))))))))))))))) =
                          b.sv ∧
                        Z ((b.mmc3C w).tmod b.chr))
                False)
            (br (b.kind == 7)
              (br (!decide (b.chr = 0))
                (SV.i IntKind.i64 b.chr = SV.i IntKind.i64 b.chr ∧
                  SV.i IntKind.i64 b.chr = SV.i IntKind.i64 b.chr ∧
                    SV.agg
                          (SVs.cons (SV.i IntKind.i64 b.kind)
                            (SVs.cons (SV.i IntKind.i64 b.sub)
                              (SVs.cons (SV.i IntKind.u8 b.hard)
                                (SVs.cons (SV.b b.work)
                                  (SVs.cons (SV.i IntKind.i64 b.prg)
                                    (SVs.cons (SV.i IntKind.i64 b.chr)
                                      (SVs.cons (SV.b b.cram)
                                        (SVs.cons (SV.i IntKind.u8 b.shift)
                                          (SVs.cons (SV.i IntKind.u8 b.ctrl)
                                            (SVs.cons (SV.i IntKind.u8 b.chrA)
                                              (SVs.cons (SV.i IntKind.u8 b.chrB)
                                                (SVs.cons (SV.i IntKind.u8 b.prgR)
                                                  (SVs.cons (SV.i IntKind.i64 b.last)
                                                    (SVs.cons (SV.i IntKind.u8 b.latch)
                                                      (SVs.cons (SV.i IntKind.u8 b.sel)
                                                        (SVs.cons (SV.arr IntKind.u8 8 b.rs) (SVs.cons (SV.i IntKind.u8 b.turn) (SVs.cons (SV.i IntKind.u8 b.guard) (SVs.cons (SV.i IntKind.u8 b.iLatch) (SVs.cons (SV.i IntKind.u8 b.iCount) (SVs.cons (SV.b b.iLoad) (SVs.cons (SV.b b.iOn) (SVs.cons (SV.b b.irq) (SVs.cons (SV.i IntKind.i64 b.epoch) SVs.nil)))))))))))))))))))))))) =
                        b.sv ∧
                      SV.agg
                            (SVs.cons (SV.i IntKind.i64 b.kind)
                              (SVs.cons (SV.i IntKind.i64 b.sub)
                                (SVs.cons (SV.i IntKind.u8 b.hard)
                                  (SVs.cons (SV.b b.work)
                                    (SVs.cons (SV.i IntKind.i64 b.prg)
                                      (SVs.cons (SV.i IntKind.i64 b.chr)
                                        (SVs.cons (SV.b b.cram)
                                          (SVs.cons (SV.i IntKind.u8 b.shift)
                                            (SVs.cons (SV.i IntKind.u8 b.ctrl)
                                              (SVs.cons (SV.i IntKind.u8 b.chrA)
                                                (SVs.cons (SV.i IntKind.u8 b.chrB)
                                                  (SVs.cons (SV.i IntKind.u8 b.prgR)
                                                    (SVs.cons (SV.i IntKind.i64 b.last)
                                                      (SVs.cons (SV.i IntKind.u8 b.latch)
                                                        (SVs.cons (SV.i IntKind.u8 b.sel)
                                                          (SVs.cons (SV.arr IntKind.u8 8 b.rs) (SVs.cons (SV.i IntKind.u8 b.turn) (SVs.cons (SV.i IntKind.u8 b.guard) (SVs.cons (SV.i IntKind.u8 b.iLatch) (SVs.cons (SV.i IntKind.u8 b.iCount) (SVs.cons (SV.b b.iLoad) (SVs.cons (SV.b b.iOn) (SVs.cons (SV.b b.irq) (SVs.cons (SV.i IntKind.i64 b.epoch) SVs.nil)))))))))))))))))))))))) =
                          b.sv ∧
                        Z (w.tmod b.chr))
                False)
              (br (!decide (b.chr = 0))
                (SV.i IntKind.i64 b.chr = SV.i IntKind.i64 b.chr ∧
                  SV.i IntKind.i64 b.chr = SV.i IntKind.i64 b.chr ∧
                    SV.agg
                          (SVs.cons (SV.i IntKind.i64 b.kind)
                            (SVs.cons (SV.i IntKind.i64 b.sub)
                              (SVs.cons (SV.i IntKind.u8 b.hard)
                                (SVs.cons (SV.b b.work)
                                  (SVs.cons (SV.i IntKind.i64 b.prg)
                                    (SVs.cons (SV.i IntKind.i64 b.chr)
                                      (SVs.cons (SV.b b.cram)
                                        (SVs.cons (SV.i IntKind.u8 b.shift)
                                          (SVs.cons (SV.i IntKind.u8 b.ctrl)
                                            (SVs.cons (SV.i IntKind.u8 b.chrA)
                                              (SVs.cons (SV.i IntKind.u8 b.chrB)
                                                (SVs.cons (SV.i IntKind.u8 b.prgR)
                                                  (SVs.cons (SV.i IntKind.i64 b.last)
                                                    (SVs.cons (SV.i IntKind.u8 b.latch)
                                                      (SVs.cons (SV.i IntKind.u8 b.sel)
                                                        (SVs.cons (SV.arr IntKind.u8 8 b.rs) (SVs.cons (SV.i IntKind.u8 b.turn) (SVs.cons (SV.i IntKind.u8 b.guard) (SVs.cons (SV.i IntKind.u8 b.iLatch) (SVs.cons (SV.i IntKind.u8 b.iCount) (SVs.cons (SV.b b.iLoad) (SVs.cons (SV.b b.iOn) (SVs.cons (SV.b b.irq) (SVs.cons (SV.i IntKind.i64 b.epoch) SVs.nil)))))))))))))))))))))))) =
                        b.sv ∧
                      SV.agg
                            (SVs.cons (SV.i IntKind.i64 b.kind)
                              (SVs.cons (SV.i IntKind.i64 b.sub)
                                (SVs.cons (SV.i IntKind.u8 b.hard)
                                  (SVs.cons (SV.b b.work)
                                    (SVs.cons (SV.i IntKind.i64 b.prg)
                                      (SVs.cons (SV.i IntKind.i64 b.chr)
                                        (SVs.cons (SV.b b.cram)
                                          (SVs.cons (SV.i IntKind.u8 b.shift)
                                            (SVs.cons (SV.i IntKind.u8 b.ctrl)
                                              (SVs.cons (SV.i IntKind.u8 b.chrA)
                                                (SVs.cons (SV.i IntKind.u8 b.chrB)
                                                  (SVs.cons (SV.i IntKind.u8 b.prgR)
                                                    (SVs.cons (SV.i IntKind.i64 b.last)
                                                      (SVs.cons (SV.i IntKind.u8 b.latch)
                                                        (SVs.cons (SV.i IntKind.u8 b.sel)
                                                          (SVs.cons (SV.arr IntKind.u8 8 b.rs) (SVs.cons (SV.i IntKind.u8 b.turn) (SVs.cons (SV.i IntKind.u8 b.guard) (SVs.cons (SV.i IntKind.u8 b.iLatch) (SVs.cons (SV.i IntKind.u8 b.iCount) (SVs.cons (SV.b b.iLoad) (SVs.cons (SV.b b.iOn) (SVs.cons (SV.b b.irq) (SVs.cons (SV.i IntKind.i64 b.epoch) SVs.nil)))))))))))))))))))))))) =
                          b.sv ∧
                        Z (w.tmod b.chr))
                False)))))))) := by kernel_rfl
theorem t43 (b : Brd) (a : Int) (Z : Int → Prop) : (bodyK (EB hA noLoop) (callN (EB hA noLoop) 3) 43 Tryd.f43 [b.sv, .i .u16 a] [] (fun y _ => onB (y.cl 0) (onI Z y))) = (
  Chk b.fit ∧ br (!b.valid) (Z 0) (Chk b.fit ∧ br (b.mirN == 0) (Z (ishr IntKind.i64 (IntKind.i64.wrap (iand IntKind.u16 (ishr IntKind.u16 a 10) 3)) 1)) (br (b.mirN == 1) (Z (iand IntKind.i64 (IntKind.i64.wrap (iand IntKind.u16 (ishr IntKind.u16 a 10) 3)) 1)) (br (b.mirN == 2) (Z 0) (br (b.mirN == 3) (Z 1) (Z (IntKind.i64.wrap (iand IntKind.u16 (ishr IntKind.u16 a 10) 3)))))))) := by kernel_rfl
theorem t61 (b : Brd) (a : Int) (Z : Int → Prop) : (bodyK (EB hA noLoop) (callN (EB hA noLoop) 3) 61 Tryd.f61 [b.sv, .i .u16 a] [] (fun y _ => onB (y.cl 0) (onI Z y))) = (
  Chk b.fit ∧ br (!b.valid) (Z 0) (Chk b.fit ∧ br (b.mirN == 0) (Z (IntKind.i64.wrap (((IntKind.i64.wrap ((IntKind.i64.wrap a).tdiv 1024)).tmod 4).tdiv 2))) (br (b.mirN == 1) (Z (((IntKind.i64.wrap ((IntKind.i64.wrap a).tdiv 1024)).tmod 4).tmod 2)) (br (b.mirN == 3) (Z 1) (br (b.mirN == 4) (Z ((IntKind.i64.wrap ((IntKind.i64.wrap a).tdiv 1024)).tmod 4)) (Z 0)))))) := by kernel_rfl
theorem t47 (b : Brd) (a : Int) (Z : Int → Prop) : (bodyK (EB hA noLoop) (callN (EB hA noLoop) 3) 47 Tryd.f47 [b.sv, .i .u16 a] [] (fun y _ => onB (y.cl 0) (onI Z y))) = (
  br (!decide (a < 32768) && true) (Chk b.fit ∧ br (decide (a < 32768) || !b.valid) (Z (-1)) (Chk (okBI b (IntKind.i64.wrap (iand IntKind.u16 (ishr IntKind.u16 a 13) 3))) ∧ Z (IntKind.i64.wrap (IntKind.i64.wrap (b.bankN (IntKind.i64.wrap (iand IntKind.u16 (ishr IntKind.u16 a 13) 3)) * 8192) + IntKind.i64.wrap (a.tmod 8192)))))
  (br (decide (a < 32768) || !false) (Z (-1)) (Chk (okBI b (IntKind.i64.wrap (iand IntKind.u16 (ishr IntKind.u16 a 13) 3))) ∧ Z (IntKind.i64.wrap (IntKind.i64.wrap (b.bankN (IntKind.i64.wrap (iand IntKind.u16 (ishr IntKind.u16 a 13) 3)) * 8192) + IntKind.i64.wrap (a.tmod 8192)))))) := by kernel_rfl
theorem t57 (b : Brd) (a : Int) (Z : Int → Prop) : (bodyK (EB hA noLoop) (callN (EB hA noLoop) 3) 57 Tryd.f57 [b.sv, .i .u16 a] [] (fun y _ => onB (y.cl 0) (onI Z y))) = (
  br (decide (a < 32768)) (Z (-1))
  (Chk (okBI b (IntKind.i64.wrap ((IntKind.i64.wrap (IntKind.u16.wrap (a - 32768))).tdiv 8192))) ∧ br (decide (b.bankN (IntKind.i64.wrap ((IntKind.i64.wrap (IntKind.u16.wrap (a - 32768))).tdiv 8192)) < 0)) (Z (-1)) (Z (IntKind.i64.wrap (IntKind.i64.wrap (8192 * b.bankN (IntKind.i64.wrap ((IntKind.i64.wrap (IntKind.u16.wrap (a - 32768))).tdiv 8192))) + (IntKind.i64.wrap a).tmod 8192))))) := by kernel_rfl
theorem t58 (b : Brd) (a : Int) (Z : Int → Prop) : (bodyK (EB hA noLoop) (callN (EB hA noLoop) 3) 58 Tryd.f58 [b.sv, .i .u16 a] [] (fun y _ => onB (y.cl 0) (onI Z y))) = (
  br (decide (8192 ≤ a)) (Z (-1)) (Chk (okBI b (IntKind.i64.wrap ((IntKind.i64.wrap a).tdiv 1024))) ∧ br (decide (b.chrN (IntKind.i64.wrap ((IntKind.i64.wrap a).tdiv 1024)) < 0)) (Z (-1)) (Z (IntKind.i64.wrap (IntKind.i64.wrap (1024 * b.chrN (IntKind.i64.wrap ((IntKind.i64.wrap a).tdiv 1024))) + (IntKind.i64.wrap a).tmod 1024))))) := by kernel_rfl

end Go.Sx

namespace Go.Sx
open Go.Proofs
set_option linter.unusedVariables false
set_option linter.unusedSimpArgs false
set_option maxRecDepth 100000

theorem bv_nat (n : Nat) {x : Nat} (h : x < 2 ^ n) : (BitVec.ofInt n (x : Int)).toNat = x := by
  rw [BitVec.ofInt_natCast, BitVec.toNat_ofNat, Nat.mod_eq_of_lt h]
theorem and_nat (n : Nat) {x y : Nat} (hx : x < 2 ^ n) (hy : y < 2 ^ n) : (BitVec.ofInt n (x : Int) &&& BitVec.ofInt n (y : Int)).toNat = x &&& y := by
  rw [BitVec.toNat_and, bv_nat n hx, bv_nat n hy]
theorem or_nat (n : Nat) {x y : Nat} (hx : x < 2 ^ n) (hy : y < 2 ^ n) : (BitVec.ofInt n (x : Int) ||| BitVec.ofInt n (y : Int)).toNat = x ||| y := by
  rw [BitVec.toNat_or, bv_nat n hx, bv_nat n hy]
theorem wrap_u16 {n : Int} (h : 0 ≤ n ∧ n ≤ 65535) : IntKind.u16.wrap n = n := by
  have : IntKind.u16.wrap n = n % 65536 := by simp [IntKind.wrap, IntKind.signed, IntKind.bits]
  rw [this]; omega
/-- The lowest m bits of a word. -/
theorem low16 (m : Nat) (hm : m ≤ 16) {x : Int} (h : 0 ≤ x) (h1 : x ≤ 65535) : iand .u16 x (((2 ^ m - 1 : Nat) : Nat) : Int) = x % 2 ^ m := by
  obtain ⟨n, rfl⟩ := Int.eq_ofNat_of_zero_le h
  have hp : 2 ^ m ≤ 2 ^ 16 := Nat.pow_le_pow_right (by omega) hm
  have hp0 : 0 < 2 ^ m := Nat.pow_pos (by omega)
  unfold iand
  rw [show IntKind.u16.bits = 16 from rfl, and_nat 16 (by omega) (by omega), Nat.and_two_pow_sub_one_eq_mod]
  have : n % 2 ^ m < 2 ^ m := Nat.mod_lt _ hp0
  rw [wrap_u16 (by omega)]
  simp
theorem low64 (m : Nat) (hm : m ≤ 62) {x : Int} (h : 0 ≤ x) (h1 : x ≤ 9223372036854775807) : iand .i64 x (((2 ^ m - 1 : Nat) : Nat) : Int) = x % 2 ^ m := by
  obtain ⟨n, rfl⟩ := Int.eq_ofNat_of_zero_le h
  have hp : 2 ^ m ≤ 2 ^ 62 := Nat.pow_le_pow_right (by omega) hm
  have hp0 : 0 < 2 ^ m := Nat.pow_pos (by omega)
  unfold iand
  rw [show IntKind.i64.bits = 64 from rfl, and_nat 64 (by omega) (by omega), Nat.and_two_pow_sub_one_eq_mod]
  have : n % 2 ^ m < 2 ^ m := Nat.mod_lt _ hp0
  rw [IntWalk.i64_in _ (by omega)]
  simp
theorem w_and3 {x : Int} (h : 0 ≤ x) (h1 : x ≤ 65535) : iand .u16 x 3 = x % 4 := low16 2 (by omega) h h1
theorem i_and1 {x : Int} (h : 0 ≤ x) (h1 : x ≤ 9223372036854775807) : iand .i64 x 1 = x % 2 := low64 1 (by omega) h h1
theorem shr_div (k : IntKind) (x : Int) (y : Int) (h : y.toNat ≤ k.bits) : ishr k x y = x / 2 ^ y.toNat := by
  unfold ishr
  rw [Nat.min_eq_left h, Int.fdiv_eq_ediv_of_nonneg]
  exact Int.le_of_lt (Int.pow_pos (by omega))
theorem shr10 (x : Int) : ishr .u16 x 10 = x / 1024 := shr_div .u16 x 10 (by decide)
theorem shr13 (x : Int) : ishr .u16 x 13 = x / 8192 := shr_div .u16 x 13 (by decide)
theorem shr1 (x : Int) : ishr .i64 x 1 = x / 2 := shr_div .i64 x 1 (by decide)

theorem p32 (x : Brd × Int) (h : okBI x.1 x.2) : Chk (bodyK (EB hA noLoop) (callN (EB hA noLoop) 3) 32 Tryd.f32 (eBI x) [] (fun y _ => onB (y.cl 0) (onI (fun n => n = x.1.chrN x.2) y))) := by
  obtain ⟨b, w⟩ := x
  constructor
  show bodyK (EB hA noLoop) (callN (EB hA noLoop) 3) 32 Tryd.f32 [b.sv, .i .i64 w] [] (fun y _ => onB (y.cl 0) (onI (fun n => n = b.chrN w) y))
  rw [t32]
  have hf : b.fit := h.fit
  clear h
  refine br_in (fun c => ⟨⟨hf⟩, br_in (fun d => ?_) (fun d => ?_)⟩) (fun c => br_in (fun d => ?_) (fun d => ?_))
  · unfold Brd.chrN
    rw [if_neg]
    rintro ⟨v, w0, w1⟩
    rw [v] at d; simp at d; omega
  · have hc : b.valid = true ∧ 0 ≤ w ∧ w ≤ 7 := by simp at d; exact ⟨d.2, by omega, by omega⟩
    have hp := valid_prg hc.1
    have ok : okSlot b w := ⟨hf, hp.2.2.1, hp.2.2.2, hc.2.1, hc.2.2⟩
    have hne : (!decide (b.chr = 0)) = true := by simp; omega
    have key := @chr_key b w hc.1 ok
    refine br_in (fun e1 => ⟨⟨ok⟩, ?_⟩) (fun e1 => br_in (fun e2 => ?_) (fun e2 => br_in (fun e3 => ⟨⟨ok⟩, ?_⟩) (fun e3 => br_in (fun e4 => ⟨⟨ok⟩, ?_⟩) (fun e4 => br_in (fun e7 => ?_) (fun e7 => ?_))))) <;>
      refine br_in (fun _ => ⟨rfl, rfl, rfl, rfl, key ?_⟩) (fun e => by rw [hne] at e; simp at e) <;> unfold Brd.chrR <;> grind
  · unfold Brd.chrN
    rw [if_neg]
    rintro ⟨v, w0, w1⟩
    simp at c; omega
  · simp at d
theorem con32 : ConOK (EB hA noLoop) 32 cSlotN := EBconQ (enc := eBI) (p := fun x => okBI x.1 x.2) (F := fun x => .i .i64 (x.1.chrN x.2)) (Q := fun x => onI (fun n => n = x.1.chrN x.2)) hA_ok (noLoops _) 3 Tryd.func32 dBI_ok (fun x y h => onI_out h) p32

theorem mir_range {b : Brd} (v : b.valid = true) : 0 ≤ b.mirN ∧ b.mirN ≤ 4 := by
  have := (sized_iff b).1 (valid_sized v).2
  unfold Brd.mirN
  (repeat' split) <;> omega
/-- Page, PrgAt, ChrAt. -/
def Brd.pageN (b : Brd) (a : Int) : Int :=
  if b.valid = true then
    (if b.mirN = 0 then a / 1024 % 4 / 2 else if b.mirN = 1 then a / 1024 % 4 % 2 else if b.mirN = 2 then 0 else if b.mirN = 3 then 1 else a / 1024 % 4)
  else 0
def Brd.prgAt (b : Brd) (a : Int) : Int := if b.valid = true ∧ 32768 ≤ a then 8192 * b.bankN (a / 8192 - 4) + a % 8192 else -1
def Brd.chrAt (b : Brd) (a : Int) : Int := if b.valid = true ∧ a < 8192 then 1024 * b.chrN (a / 1024) + a % 1024 else -1

def dBW : List SV → Option (Brd × Int)
  | [x, .i .u16 n] => (match brdOf x with
    | some b => some (b, n)
    | none => none)
  | _ => none
def eBW (x : Brd × Int) : List SV := [x.1.sv, .i .u16 x.2]
theorem dBW_ok (l : List SV) (x : Brd × Int) (h : dBW l = some x) : l = eBW x := by
  unfold dBW at h; split at h
  · split at h
    · rename_i hb
      simp at h; subst h
      rw [brdOf_some hb]; rfl
    · simp at h
  · simp at h
structure okBW (b : Brd) (n : Int) : Prop where
  fit : b.fit
  n : u16 n
theorem p43 (x : Brd × Int) (h : okBW x.1 x.2) : Chk (bodyK (EB hA noLoop) (callN (EB hA noLoop) 3) 43 Tryd.f43 (eBW x) [] (fun y _ => onB (y.cl 0) (onI (fun n => n = x.1.pageN x.2) y))) := by
  obtain ⟨b, a⟩ := x
  constructor
  show bodyK (EB hA noLoop) (callN (EB hA noLoop) 3) 43 Tryd.f43 [b.sv, .i .u16 a] [] (fun y _ => onB (y.cl 0) (onI (fun n => n = b.pageN a) y))
  rw [t43]
  obtain ⟨hf, ha⟩ := h
  simp only at hf ha
  unfold u16 at ha
  rw [shr10, w_and3 (by omega) (by omega), IntWalk.i64_in (a / 1024 % 4) (by omega), shr1, i_and1 (by omega) (by omega)]
  unfold Brd.pageN
  refine ⟨⟨hf⟩, br_in (fun c => ?_) (fun c => ⟨⟨hf⟩, ?_⟩)⟩
  · grind
  · have v : b.valid = true := by simpa using c
    have := mir_range v
    repeat' (refine br_in (fun _ => ?_) (fun _ => ?_))
    all_goals grind
theorem p61 (x : Brd × Int) (h : okBW x.1 x.2) : Chk (bodyK (EB hA noLoop) (callN (EB hA noLoop) 3) 61 Tryd.f61 (eBW x) [] (fun y _ => onB (y.cl 0) (onI (fun n => n = x.1.pageN x.2) y))) := by
  obtain ⟨b, a⟩ := x
  constructor
  show bodyK (EB hA noLoop) (callN (EB hA noLoop) 3) 61 Tryd.f61 [b.sv, .i .u16 a] [] (fun y _ => onB (y.cl 0) (onI (fun n => n = b.pageN a) y))
  rw [t61]
  obtain ⟨hf, ha⟩ := h
  simp only at hf ha
  unfold u16 at ha
  have e1 : IntKind.i64.wrap a = a := IntWalk.i64_in _ (by omega)
  have e2 : a.tdiv 1024 = a / 1024 := Int.tdiv_eq_ediv_of_nonneg ha.1
  have e3 : IntKind.i64.wrap (a / 1024) = a / 1024 := IntWalk.i64_in _ (by omega)
  have e4 : (a / 1024).tmod 4 = a / 1024 % 4 := Int.tmod_eq_emod_of_nonneg (by omega)
  have e5 : (a / 1024 % 4).tdiv 2 = a / 1024 % 4 / 2 := Int.tdiv_eq_ediv_of_nonneg (by omega)
  have e6 : IntKind.i64.wrap (a / 1024 % 4 / 2) = a / 1024 % 4 / 2 := IntWalk.i64_in _ (by omega)
  have e7 : (a / 1024 % 4).tmod 2 = a / 1024 % 4 % 2 := Int.tmod_eq_emod_of_nonneg (by omega)
  simp only [e1, e2, e3, e4, e5, e6, e7]
  unfold Brd.pageN
  refine ⟨⟨hf⟩, br_in (fun c => ?_) (fun c => ⟨⟨hf⟩, ?_⟩)⟩
  · grind
  · have v : b.valid = true := by simpa using c
    have := mir_range v
    repeat' (refine br_in (fun _ => ?_) (fun _ => ?_))
    all_goals grind
theorem bank_range {b : Brd} (v : b.valid = true) (w : Int) : -1 ≤ b.bankN w ∧ b.bankN w ≤ 127 ∧ (0 ≤ w → w ≤ 3 → 0 ≤ b.bankN w ∧ b.bankN w < b.prg) := by
  have hp := valid_prg v
  unfold Brd.bankN
  split
  · have h1 := Int.emod_nonneg (b.bankR w) (b := b.prg) (by omega)
    have h2 := Int.emod_lt_of_pos (b.bankR w) (b := b.prg) (by omega)
    omega
  · rename_i c
    refine ⟨by omega, by omega, fun h0 h3 => absurd ⟨v, h0, h3⟩ c⟩
theorem slot_range {b : Brd} (v : b.valid = true) (w : Int) : -1 ≤ b.chrN w ∧ b.chrN w ≤ 511 ∧ (0 ≤ w → w ≤ 7 → 0 ≤ b.chrN w ∧ b.chrN w < b.chr) := by
  have hp := valid_prg v
  unfold Brd.chrN
  split
  · have h1 := Int.emod_nonneg (b.chrR w) (b := b.chr) (by omega)
    have h2 := Int.emod_lt_of_pos (b.chrR w) (b := b.chr) (by omega)
    omega
  · rename_i c
    refine ⟨by omega, by omega, fun h0 h3 => absurd ⟨v, h0, h3⟩ c⟩
theorem bank_not {b : Brd} (v : ¬ b.valid = true) (w : Int) : b.bankN w = -1 := by
  unfold Brd.bankN; rw [if_neg (fun h => v h.1)]
theorem slot_not {b : Brd} (v : ¬ b.valid = true) (w : Int) : b.chrN w = -1 := by
  unfold Brd.chrN; rw [if_neg (fun h => v h.1)]
theorem p47 (x : Brd × Int) (h : okBW x.1 x.2) : Chk (bodyK (EB hA noLoop) (callN (EB hA noLoop) 3) 47 Tryd.f47 (eBW x) [] (fun y _ => onB (y.cl 0) (onI (fun n => n = x.1.prgAt x.2) y))) := by
  obtain ⟨b, a⟩ := x
  constructor
  show bodyK (EB hA noLoop) (callN (EB hA noLoop) 3) 47 Tryd.f47 [b.sv, .i .u16 a] [] (fun y _ => onB (y.cl 0) (onI (fun n => n = b.prgAt a) y))
  rw [t47]
  obtain ⟨hf, ha⟩ := h
  simp only at hf ha
  unfold u16 at ha
  have e7 : a.tmod 8192 = a % 8192 := Int.tmod_eq_emod_of_nonneg (by omega)
  rw [shr13, w_and3 (by omega) (by omega), IntWalk.i64_in (a / 8192 % 4) (by omega), e7, IntWalk.i64_in (a % 8192) (by omega)]
  unfold Brd.prgAt
  refine br_in (fun c => ⟨⟨hf⟩, br_in (fun d => ?_) (fun d => ⟨⟨⟨hf, by unfold i64; omega⟩⟩, ?_⟩)⟩) (fun c => br_in (fun d => ?_) (fun d => ?_))
  · grind
  · simp at d
    have := bank_range d.2 (a / 8192 % 4)
    have ea : a / 8192 % 4 = a / 8192 - 4 := by omega
    rw [ea] at this ⊢
    rw [if_pos ⟨d.2, d.1⟩]
    simp (disch := omega) only [IntWalk.i64_in]
    omega
  · simp at c; rw [if_neg (by omega)]
  · simp at d
theorem p57 (x : Brd × Int) (h : okBW x.1 x.2) : Chk (bodyK (EB hA noLoop) (callN (EB hA noLoop) 3) 57 Tryd.f57 (eBW x) [] (fun y _ => onB (y.cl 0) (onI (fun n => n = x.1.prgAt x.2) y))) := by
  obtain ⟨b, a⟩ := x
  constructor
  show bodyK (EB hA noLoop) (callN (EB hA noLoop) 3) 57 Tryd.f57 [b.sv, .i .u16 a] [] (fun y _ => onB (y.cl 0) (onI (fun n => n = b.prgAt a) y))
  rw [t57]
  obtain ⟨hf, ha⟩ := h
  simp only at hf ha
  unfold u16 at ha
  unfold Brd.prgAt
  refine br_in (fun c => ?_) (fun c => ?_)
  · simp at c; rw [if_neg (by omega)]
  · simp at c
    have e0 : IntKind.u16.wrap (a - 32768) = a - 32768 := wrap_u16 (by omega)
    have e1 : IntKind.i64.wrap (a - 32768) = a - 32768 := IntWalk.i64_in _ (by omega)
    have e2 : (a - 32768).tdiv 8192 = (a - 32768) / 8192 := Int.tdiv_eq_ediv_of_nonneg (by omega)
    have e3 : IntKind.i64.wrap (a / 8192 - 4) = a / 8192 - 4 := IntWalk.i64_in _ (by omega)
    have e4 : (a - 32768) / 8192 = a / 8192 - 4 := by omega
    have e5 : IntKind.i64.wrap a = a := IntWalk.i64_in _ (by omega)
    have e7 : a.tmod 8192 = a % 8192 := Int.tmod_eq_emod_of_nonneg (by omega)
    simp only [e0, e1, e2, e3, e4, e5, e7]
    refine ⟨⟨⟨hf, by unfold i64; omega⟩⟩, ?_⟩
    by_cases v : b.valid = true
    · have := bank_range v (a / 8192 - 4)
      rw [if_pos ⟨v, c⟩]
      refine br_in (fun d => ?_) (fun d => ?_)
      · simp at d; omega
      · simp (disch := omega) only [IntWalk.i64_in]
    · rw [if_neg (fun h => v h.1), bank_not v]
      exact rfl
theorem p58 (x : Brd × Int) (h : okBW x.1 x.2) : Chk (bodyK (EB hA noLoop) (callN (EB hA noLoop) 3) 58 Tryd.f58 (eBW x) [] (fun y _ => onB (y.cl 0) (onI (fun n => n = x.1.chrAt x.2) y))) := by
  obtain ⟨b, a⟩ := x
  constructor
  show bodyK (EB hA noLoop) (callN (EB hA noLoop) 3) 58 Tryd.f58 [b.sv, .i .u16 a] [] (fun y _ => onB (y.cl 0) (onI (fun n => n = b.chrAt a) y))
  rw [t58]
  obtain ⟨hf, ha⟩ := h
  simp only at hf ha
  unfold u16 at ha
  unfold Brd.chrAt
  refine br_in (fun c => ?_) (fun c => ?_)
  · simp at c; rw [if_neg (by omega)]
  · simp at c
    have e1 : IntKind.i64.wrap a = a := IntWalk.i64_in _ (by omega)
    have e2 : a.tdiv 1024 = a / 1024 := Int.tdiv_eq_ediv_of_nonneg (by omega)
    have e3 : IntKind.i64.wrap (a / 1024) = a / 1024 := IntWalk.i64_in _ (by omega)
    have e7 : a.tmod 1024 = a % 1024 := Int.tmod_eq_emod_of_nonneg (by omega)
    simp only [e1, e2, e3, e7]
    refine ⟨⟨⟨hf, by unfold i64; omega⟩⟩, ?_⟩
    by_cases v : b.valid = true
    · have := slot_range v (a / 1024)
      rw [if_pos ⟨v, c⟩]
      refine br_in (fun d => ?_) (fun d => ?_)
      · simp at d; omega
      · simp (disch := omega) only [IntWalk.i64_in]
    · rw [if_neg (fun h => v h.1), slot_not v]
      exact rfl
def cPage : Con := .pure (preD dBW fun x => okBW x.1 x.2) (onD dBW fun x => .i .i64 (x.1.pageN x.2))
def cPrgAt : Con := .pure (preD dBW fun x => okBW x.1 x.2) (onD dBW fun x => .i .i64 (x.1.prgAt x.2))
def cChrAt : Con := .pure (preD dBW fun x => okBW x.1 x.2) (onD dBW fun x => .i .i64 (x.1.chrAt x.2))
theorem con43 : ConOK (EB hA noLoop) 43 cPage := EBconQ (enc := eBW) (p := fun x => okBW x.1 x.2) (F := fun x => .i .i64 (x.1.pageN x.2)) (Q := fun x => onI (fun n => n = x.1.pageN x.2)) hA_ok (noLoops _) 3 Tryd.func43 dBW_ok (fun x y h => onI_out h) p43
theorem con61 : ConOK (EB hA noLoop) 61 cPage := EBconQ (enc := eBW) (p := fun x => okBW x.1 x.2) (F := fun x => .i .i64 (x.1.pageN x.2)) (Q := fun x => onI (fun n => n = x.1.pageN x.2)) hA_ok (noLoops _) 3 Tryd.func61 dBW_ok (fun x y h => onI_out h) p61
theorem con47 : ConOK (EB hA noLoop) 47 cPrgAt := EBconQ (enc := eBW) (p := fun x => okBW x.1 x.2) (F := fun x => .i .i64 (x.1.prgAt x.2)) (Q := fun x => onI (fun n => n = x.1.prgAt x.2)) hA_ok (noLoops _) 3 Tryd.func47 dBW_ok (fun x y h => onI_out h) p47
theorem con57 : ConOK (EB hA noLoop) 57 cPrgAt := EBconQ (enc := eBW) (p := fun x => okBW x.1 x.2) (F := fun x => .i .i64 (x.1.prgAt x.2)) (Q := fun x => onI (fun n => n = x.1.prgAt x.2)) hA_ok (noLoops _) 3 Tryd.func57 dBW_ok (fun x y h => onI_out h) p57
theorem con58 : ConOK (EB hA noLoop) 58 cChrAt := EBconQ (enc := eBW) (p := fun x => okBW x.1 x.2) (F := fun x => .i .i64 (x.1.chrAt x.2)) (Q := fun x => onI (fun n => n = x.1.chrAt x.2)) hA_ok (noLoops _) 3 Tryd.func58 dBW_ok (fun x y h => onI_out h) p58
def hB : List (Nat × Con) := (32, cSlotN) :: (43, cPage) :: (61, cPage) :: (47, cPrgAt) :: (57, cPrgAt) :: (58, cChrAt) :: hA
theorem hB_ok : GamOK (EB hB noLoop) := gam_ok rfl ⟨con32.of, con43.of, con61.of, con47.of, con57.of, con58.of, con33.of, con59.of, con60.of, con62.of, con63.of, con109.of, con125.of, con128.of, con30.of, con31.of, con108.of, con118.of, con127.of, con135.of, con27.of, con28.of, con133.of, con25.of, con26.of, con129.of, con56.of, con131.of, con24.of, con19.of, con20.of, con21.of, con41.of, con22.of, con23.of, con50.of, con51.of, con52.of, con53.of, trivial⟩
end Go.Sx

namespace Go.Sx
open Go.Proofs
set_option linter.unusedVariables false
set_option linter.unusedSimpArgs false
set_option maxRecDepth 100000

theorem t49 (b : Brd) (a : Int) (Z : Int → Prop) : (bodyK (EB hB noLoop) (callN (EB hB noLoop) 3) 49 Tryd.f49 [b.sv, .i .u16 a] [] (fun y _ => onB (y.cl 0) (onI Z y))) = (
  br (!decide (8192 ≤ a) && true) (Chk b.fit ∧ br (decide (8192 ≤ a) || !b.valid) (Z (-1)) (Chk (okBI b (IntKind.i64.wrap (ishr IntKind.u16 a 10))) ∧ Z (IntKind.i64.wrap (IntKind.i64.wrap (b.chrN (IntKind.i64.wrap (ishr IntKind.u16 a 10)) * 1024) + IntKind.i64.wrap (a.tmod 1024)))))
  (br (decide (8192 ≤ a) || !false) (Z (-1)) (Chk (okBI b (IntKind.i64.wrap (ishr IntKind.u16 a 10))) ∧ Z (IntKind.i64.wrap (IntKind.i64.wrap (b.chrN (IntKind.i64.wrap (ishr IntKind.u16 a 10)) * 1024) + IntKind.i64.wrap (a.tmod 1024)))))) := by kernel_rfl

end Go.Sx

namespace Go.Sx
open Go.Proofs
set_option linter.unusedVariables false
set_option linter.unusedSimpArgs false
set_option maxRecDepth 100000
theorem p49 (x : Brd × Int) (h : okBW x.1 x.2) : Chk (bodyK (EB hB noLoop) (callN (EB hB noLoop) 3) 49 Tryd.f49 (eBW x) [] (fun y _ => onB (y.cl 0) (onI (fun n => n = x.1.chrAt x.2) y))) := by
  obtain ⟨b, a⟩ := x
  constructor
  show bodyK (EB hB noLoop) (callN (EB hB noLoop) 3) 49 Tryd.f49 [b.sv, .i .u16 a] [] (fun y _ => onB (y.cl 0) (onI (fun n => n = b.chrAt a) y))
  rw [t49]
  obtain ⟨hf, ha⟩ := h
  simp only at hf ha
  unfold u16 at ha
  have e7 : a.tmod 1024 = a % 1024 := Int.tmod_eq_emod_of_nonneg (by omega)
  rw [shr10, IntWalk.i64_in (a / 1024) (by omega), e7, IntWalk.i64_in (a % 1024) (by omega)]
  unfold Brd.chrAt
  refine br_in (fun c => ⟨⟨hf⟩, br_in (fun d => ?_) (fun d => ⟨⟨⟨hf, by unfold i64; omega⟩⟩, ?_⟩)⟩) (fun c => br_in (fun d => ?_) (fun d => ?_))
  · grind
  · simp at d
    have := slot_range d.2 (a / 1024)
    rw [if_pos ⟨d.2, d.1⟩]
    simp (disch := omega) only [IntWalk.i64_in]
    omega
  · simp at c; rw [if_neg (by omega)]
  · simp at d
theorem con49 : ConOK (EB hB noLoop) 49 cChrAt := EBconQ (enc := eBW) (p := fun x => okBW x.1 x.2) (F := fun x => .i .i64 (x.1.chrAt x.2)) (Q := fun x => onI (fun n => n = x.1.chrAt x.2)) hB_ok (noLoops _) 3 Tryd.func49 dBW_ok (fun x y h => onI_out h) p49
def hC : List (Nat × Con) := (49, cChrAt) :: hB
theorem hC_ok : GamOK (EB hC noLoop) := gam_ok rfl ⟨con49.of, con32.of, con43.of, con61.of, con47.of, con57.of, con58.of, con33.of, con59.of, con60.of, con62.of, con63.of, con109.of, con125.of, con128.of, con30.of, con31.of, con108.of, con118.of, con127.of, con135.of, con27.of, con28.of, con133.of, con25.of, con26.of, con129.of, con56.of, con131.of, con24.of, con19.of, con20.of, con21.of, con41.of, con22.of, con23.of, con50.of, con51.of, con52.of, con53.of, trivial⟩
def sE (a i : Int) (b : Brd) : St := ⟨[(1, .i .u16 a), (2, .ptr 0 []), (5, .i .i64 i)], [b.sv]⟩
def kE : List Tmp := [1, 2, 5]

theorem tE (a i : Int) (b : Brd) (N : St → Prop) (X : Kont) : (execC (EB hC noLoop) (callN (EB hC noLoop) 1) 29 Tryd.f29.ntmps (codeL Tryd.f29 2) (sE a i b) (oneK kE 1 N X)) = (
  br (decide (i < 9))
  (Chk (okBI b i) ∧
    Chk (okBI b i) ∧
      br (!b.bankN i != b.bankN i && true)
        (Chk (okBI b i) ∧
          br (!b.bankN i != b.bankN i && true)
            (Chk (okBI b i) ∧
              br (b.bankN i != b.bankN i || b.chrN i != b.chrN i)
                (X Exit.ret
                  (St.mk [(1, SV.i IntKind.u16 a), (2, SV.ptr 0 []), (5, SV.i IntKind.i64 i)]
                    [SV.agg
                        (SVs.cons (SV.i IntKind.i64 b.kind)
                          (SVs.cons (SV.i IntKind.i64 b.sub)
                            (SVs.cons (SV.i IntKind.u8 b.hard)
                              (SVs.cons (SV.b b.work)
                                (SVs.cons (SV.i IntKind.i64 b.prg)
                                  (SVs.cons (SV.i IntKind.i64 b.chr)
                                    (SVs.cons (SV.b b.cram)
                                      (SVs.cons (SV.i IntKind.u8 b.shift)
                                        (SVs.cons (SV.i IntKind.u8 b.ctrl)
                                          (SVs.cons (SV.i IntKind.u8 b.chrA)
                                            (SVs.cons (SV.i IntKind.u8 b.chrB)
                                              (SVs.cons (SV.i IntKind.u8 b.prgR)
                                                (SVs.cons (SV.i IntKind.i64 b.last)
                                                  (SVs.cons (SV.i IntKind.u8 b.latch)
                                                    (SVs.cons (SV.i IntKind.u8 b.sel)
                                                      (SVs.cons (SV.arr IntKind.u8 8 b.rs) (SVs.cons (SV.i IntKind.u8 b.turn) (SVs.cons (SV.i IntKind.u8 b.guard) (SVs.cons (SV.i IntKind.u8 b.iLatch) (SVs.cons (SV.i IntKind.u8 b.iCount) (SVs.cons (SV.b b.iLoad) (SVs.cons (SV.b b.iOn) (SVs.cons (SV.b b.irq) (SVs.cons (SV.i IntKind.i64 b.epoch) SVs.nil))))))))))))))))))))))))]))
                (N
                  (St.mk [(1, SV.i IntKind.u16 a), (2, SV.ptr 0 []), (5, SV.i IntKind.i64 (IntKind.i64.wrap (i + 1)))]
                    [SV.agg
                        (SVs.cons (SV.i IntKind.i64 b.kind)
                          (SVs.cons (SV.i IntKind.i64 b.sub)
                            (SVs.cons (SV.i IntKind.u8 b.hard)
                              (SVs.cons (SV.b b.work)
                                (SVs.cons (SV.i IntKind.i64 b.prg)
                                  (SVs.cons (SV.i IntKind.i64 b.chr)
                                    (SVs.cons (SV.b b.cram)
                                      (SVs.cons (SV.i IntKind.u8 b.shift)
                                        (SVs.cons (SV.i IntKind.u8 b.ctrl)
                                          (SVs.cons (SV.i IntKind.u8 b.chrA)
                                            (SVs.cons (SV.i IntKind.u8 b.chrB)
                                              (SVs.cons (SV.i IntKind.u8 b.prgR)
                                                (SVs.cons (SV.i IntKind.i64 b.last)
                                                  (SVs.cons (SV.i IntKind.u8 b.latch)
                                                    (SVs.cons (SV.i IntKind.u8 b.sel)
                                                      (SVs.cons (SV.arr IntKind.u8 8 b.rs) (SVs.cons (SV.i IntKind.u8 b.turn) (SVs.cons (SV.i IntKind.u8 b.guard) (SVs.cons (SV.i IntKind.u8 b.iLatch) (SVs.cons (SV.i IntKind.u8 b.iCount) (SVs.cons (SV.b b.iLoad) (SVs.cons (SV.b b.iOn) (SVs.cons (SV.b b.irq) (SVs.cons (SV.i IntKind.i64 b.epoch) SVs.nil))))))))))))))))))))))))])))
            (br (b.bankN i != b.bankN i || b.chrN i != 0)
              (X Exit.ret
                (St.mk [(1, SV.i IntKind.u16 a), (2, SV.ptr 0 []), (5, SV.i IntKind.i64 i)]
                  [SV.agg
                      (SVs.cons (SV.i IntKind.i64 b.kind)
                        (SVs.cons (SV.i IntKind.i64 b.sub)
                          (SVs.cons (SV.i IntKind.u8 b.hard)
                            (SVs.cons (SV.b b.work)
                              (SVs.cons (SV.i IntKind.i64 b.prg)
                                (SVs.cons (SV.i IntKind.i64 b.chr)
                                  (SVs.cons (SV.b b.cram)
                                    (SVs.cons (SV.i IntKind.u8 b.shift)
                                      (SVs.cons (SV.i IntKind.u8 b.ctrl)
                                        (SVs.cons (SV.i IntKind.u8 b.chrA)
                                          (SVs.cons (SV.i IntKind.u8 b.chrB)
                                            (SVs.cons (SV.i IntKind.u8 b.prgR)
                                              (SVs.cons (SV.i IntKind.i64 b.last)
                                                (SVs.cons (SV.i IntKind.u8 b.latch)
                                                  (SVs.cons (SV.i IntKind.u8 b.sel)
                                                    (SVs.cons (SV.arr IntKind.u8 8 b.rs) (SVs.cons (SV.i IntKind.u8 b.turn) (SVs.cons (SV.i IntKind.u8 b.guard) (SVs.cons (SV.i IntKind.u8 b.iLatch) (SVs.cons (SV.i IntKind.u8 b.iCount) (SVs.cons (SV.b b.iLoad) (SVs.cons (SV.b b.iOn) (SVs.cons (SV.b b.irq) (SVs.cons (SV.i IntKind.i64 b.epoch) SVs.nil))))))))))))))))))))))))]))
              (N
                (St.mk [(1, SV.i IntKind.u16 a), (2, SV.ptr 0 []), (5, SV.i IntKind.i64 (IntKind.i64.wrap (i + 1)))]
                  [SV.agg
                      (SVs.cons (SV.i IntKind.i64 b.kind)
                        (SVs.cons (SV.i IntKind.i64 b.sub)
                          (SVs.cons (SV.i IntKind.u8 b.hard)
                            (SVs.cons (SV.b b.work)
                              (SVs.cons (SV.i IntKind.i64 b.prg)
                                (SVs.cons (SV.i IntKind.i64 b.chr)
                                  (SVs.cons (SV.b b.cram)
                                    (SVs.cons (SV.i IntKind.u8 b.shift)
                                      (SVs.cons (SV.i IntKind.u8 b.ctrl)
                                        (SVs.cons (SV.i IntKind.u8 b.chrA)
                                          (SVs.cons (SV.i IntKind.u8 b.chrB)
                                            (SVs.cons (SV.i IntKind.u8 b.prgR)
                                              (SVs.cons (SV.i IntKind.i64 b.last)
                                                (SVs.cons (SV.i IntKind.u8 b.latch)
                                                  (SVs.cons (SV.i IntKind.u8 b.sel)
                                                    (SVs.cons (SV.arr IntKind.u8 8 b.rs) (SVs.cons (SV.i IntKind.u8 b.turn) (SVs.cons (SV.i IntKind.u8 b.guard) (SVs.cons (SV.i IntKind.u8 b.iLatch) (SVs.cons (SV.i IntKind.u8 b.iCount) (SVs.cons (SV.b b.iLoad) (SVs.cons (SV.b b.iOn) (SVs.cons (SV.b b.irq) (SVs.cons (SV.i IntKind.i64 b.epoch) SVs.nil))))))))))))))))))))))))]))))
        (br (!b.bankN i != b.bankN i && true)
          (Chk (okBI b i) ∧
            br (b.bankN i != b.bankN i || 0 != b.chrN i)
              (X Exit.ret
                (St.mk [(1, SV.i IntKind.u16 a), (2, SV.ptr 0 []), (5, SV.i IntKind.i64 i)]
                  [SV.agg
                      (SVs.cons (SV.i IntKind.i64 b.kind)
                        (SVs.cons (SV.i IntKind.i64 b.sub)
                          (SVs.cons (SV.i IntKind.u8 b.hard)
                            (SVs.cons (SV.b b.work)
                              (SVs.cons (SV.i IntKind.i64 b.prg)
                                (SVs.cons (SV.i IntKind.i64 b.chr)
                                  (SVs.cons (SV.b b.cram)
                                    (SVs.cons (SV.i IntKind.u8 b.shift)
                                      (SVs.cons (SV.i IntKind.u8 b.ctrl)
                                        (SVs.cons (SV.i IntKind.u8 b.chrA)
                                          (SVs.cons (SV.i IntKind.u8 b.chrB)
                                            (SVs.cons (SV.i IntKind.u8 b.prgR)
                                              (SVs.cons (SV.i IntKind.i64 b.last)
                                                (SVs.cons (SV.i IntKind.u8 b.latch)
                                                  (SVs.cons (SV.i IntKind.u8 b.sel)
                                                    (SVs.cons (SV.arr IntKind.u8 8 b.rs) (SVs.cons (SV.i IntKind.u8 b.turn) (SVs.cons (SV.i IntKind.u8 b.guard) (SVs.cons (SV.i IntKind.u8 b.iLatch) (SVs.cons (SV.i IntKind.u8 b.iCount) (SVs.cons (SV.b b.iLoad) (SVs.cons (SV.b b.iOn) (SVs.cons (SV.b b.irq) (SVs.cons (SV.i IntKind.i64 b.epoch) SVs.nil))))))))))))))))))))))))]))
              (N
                (St.mk [(1, SV.i IntKind.u16 a), (2, SV.ptr 0 []), (5, SV.i IntKind.i64 (IntKind.i64.wrap (i + 1)))]
                  [SV.agg
                      (SVs.cons (SV.i IntKind.i64 b.kind)
                        (SVs.cons (SV.i IntKind.i64 b.sub)
                          (SVs.cons (SV.i IntKind.u8 b.hard)
                            (SVs.cons (SV.b b.work)
                              (SVs.cons (SV.i IntKind.i64 b.prg)
                                (SVs.cons (SV.i IntKind.i64 b.chr)
                                  (SVs.cons (SV.b b.cram)
                                    (SVs.cons (SV.i IntKind.u8 b.shift)
                                      (SVs.cons (SV.i IntKind.u8 b.ctrl)
                                        (SVs.cons (SV.i IntKind.u8 b.chrA)
                                          (SVs.cons (SV.i IntKind.u8 b.chrB)
                                            (SVs.cons (SV.i IntKind.u8 b.prgR)
                                              (SVs.cons (SV.i IntKind.i64 b.last)
                                                (SVs.cons (SV.i IntKind.u8 b.latch)
                                                  (SVs.cons (SV.i IntKind.u8 b.sel)
                                                    (SVs.cons (SV.arr IntKind.u8 8 b.rs) (SVs.cons (SV.i IntKind.u8 b.turn) (SVs.cons (SV.i IntKind.u8 b.guard) (SVs.cons (SV.i IntKind.u8 b.iLatch) (SVs.cons (SV.i IntKind.u8 b.iCount) (SVs.cons (SV.b b.iLoad) (SVs.cons (SV.b b.iOn) (SVs.cons (SV.b b.irq) (SVs.cons (SV.i IntKind.i64 b.epoch) SVs.nil))))))))))))))))))))))))])))
          (br (b.bankN i != b.bankN i || 0 != 0)
            (X Exit.ret
              (St.mk [(1, SV.i IntKind.u16 a), (2, SV.ptr 0 []), (5, SV.i IntKind.i64 i)]
                [SV.agg
                    (SVs.cons (SV.i IntKind.i64 b.kind)
                      (SVs.cons (SV.i IntKind.i64 b.sub)
                        (SVs.cons (SV.i IntKind.u8 b.hard)
                          (SVs.cons (SV.b b.work)
                            (SVs.cons (SV.i IntKind.i64 b.prg)
                              (SVs.cons (SV.i IntKind.i64 b.chr)
                                (SVs.cons (SV.b b.cram)
                                  (SVs.cons (SV.i IntKind.u8 b.shift)
                                    (SVs.cons (SV.i IntKind.u8 b.ctrl)
                                      (SVs.cons (SV.i IntKind.u8 b.chrA)
                                        (SVs.cons (SV.i IntKind.u8 b.chrB)
                                          (SVs.cons (SV.i IntKind.u8 b.prgR)
                                            (SVs.cons (SV.i IntKind.i64 b.last)
                                              (SVs.cons (SV.i IntKind.u8 b.latch)
                                                (SVs.cons (SV.i IntKind.u8 b.sel)
                                                  (SVs.cons (SV.arr IntKind.u8 8 b.rs) (SVs.cons (SV.i IntKind.u8 b.turn) (SVs.cons (SV.i IntKind.u8 b.guard) (SVs.cons (SV.i IntKind.u8 b.iLatch) (SVs.cons (SV.i IntKind.u8 b.iCount) (SVs.cons (SV.b b.iLoad) (SVs.cons (SV.b b.iOn) (SVs.cons (SV.b b.irq) (SVs.cons (SV.i IntKind.i64 b.epoch) SVs.nil))))))))))))))))))))))))]))
            (N
              (St.mk [(1, SV.i IntKind.u16 a), (2, SV.ptr 0 []), (5, SV.i IntKind.i64 (IntKind.i64.wrap (i + 1)))]
                [SV.agg
                    (SVs.cons (SV.i IntKind.i64 b.kind)
                      (SVs.cons (SV.i IntKind.i64 b.sub)
                        (SVs.cons (SV.i IntKind.u8 b.hard)
                          (SVs.cons (SV.b b.work)
                            (SVs.cons (SV.i IntKind.i64 b.prg)
                              (SVs.cons (SV.i IntKind.i64 b.chr)
                                (SVs.cons (SV.b b.cram)
                                  (SVs.cons (SV.i IntKind.u8 b.shift)
                                    (SVs.cons (SV.i IntKind.u8 b.ctrl)
                                      (SVs.cons (SV.i IntKind.u8 b.chrA)
                                        (SVs.cons (SV.i IntKind.u8 b.chrB)
                                          (SVs.cons (SV.i IntKind.u8 b.prgR)
                                            (SVs.cons (SV.i IntKind.i64 b.last)
                                              (SVs.cons (SV.i IntKind.u8 b.latch)
                                                (SVs.cons (SV.i IntKind.u8 b.sel)
                                                  (SVs.cons (SV.arr IntKind.u8 8 b.rs) (SVs.cons (SV.i IntKind.u8 b.turn) (SVs.cons (SV.i IntKind.u8 b.guard) (SVs.cons (SV.i IntKind.u8 b.iLatch) (SVs.cons (SV.i IntKind.u8 b.iCount) (SVs.cons (SV.b b.iLoad) (SVs.cons (SV.b b.iOn) (SVs.cons (SV.b b.irq) (SVs.cons (SV.i IntKind.i64 b.epoch) SVs.nil))))))))))))))))))))))))])))))
  (X (Exit.exit 0)
    (St.mk [(1, SV.i IntKind.u16 a), (2, SV.ptr 0 []), (5, SV.i IntKind.i64 i)]
      [SV.agg
          (SVs.cons (SV.i IntKind.i64 b.kind)
            (SVs.cons (SV.i IntKind.i64 b.sub)
              (SVs.cons (SV.i IntKind.u8 b.hard)
                (SVs.cons (SV.b b.work)
                  (SVs.cons (SV.i IntKind.i64 b.prg)
                    (SVs.cons (SV.i IntKind.i64 b.chr)
                      (SVs.cons (SV.b b.cram)
                        (SVs.cons (SV.i IntKind.u8 b.shift)
                          (SVs.cons (SV.i IntKind.u8 b.ctrl)
                            (SVs.cons (SV.i IntKind.u8 b.chrA)
                              (SVs.cons (SV.i IntKind.u8 b.chrB)
                                (SVs.cons (SV.i IntKind.u8 b.prgR)
                                  (SVs.cons (SV.i IntKind.i64 b.last)
                                    (SVs.cons (SV.i IntKind.u8 b.latch)
                                      (SVs.cons (SV.i IntKind.u8 b.sel) (SVs.cons (SV.arr IntKind.u8 8 b.rs) (SVs.cons (SV.i IntKind.u8 b.turn) (SVs.cons (SV.i IntKind.u8 b.guard) (SVs.cons (SV.i IntKind.u8 b.iLatch) (SVs.cons (SV.i IntKind.u8 b.iCount) (SVs.cons (SV.b b.iLoad) (SVs.cons (SV.b b.iOn) (SVs.cons (SV.b b.irq) (SVs.cons (SV.i IntKind.i64 b.epoch) SVs.nil))))))))))))))))))))))))]))) := by kernel_rfl

end Go.Sx

namespace Go.Sx
open Go.Proofs
set_option linter.unusedVariables false
set_option linter.unusedSimpArgs false
set_option maxRecDepth 100000
set_option maxHeartbeats 4000000
def bodyE : St → Kont → Prop := execC (EB hC noLoop) (callN (EB hC noLoop) 1) 29 Tryd.f29.ntmps (codeL Tryd.f29 2)
theorem loopE (K : Kont) (a : Int) (b : Brd) (h : b.fit) (hk : K (Exit.exit 0) (sE a 9 b)) :
    ∀ (i : Nat) (j : Int), j + i = 9 → -1 ≤ j → ∃ m, roundsN kE 1 bodyE K m (sE a j b)
  | 0, j, e, _ => by
    refine ⟨1, ?_⟩
    rw [roundsN_succ]; unfold bodyE; rw [tE]
    have ej : j = 9 := by omega
    subst ej
    exact hk
  | i + 1, j, e, l => by
    obtain ⟨m, hm⟩ := loopE K a b h hk i (j + 1) (by omega) (by omega)
    refine ⟨m + 1, ?_⟩
    rw [roundsN_succ]; unfold bodyE; rw [tE]
    have ok : okBI b j := ⟨h, by unfold i64; omega⟩
    rw [show decide ((j : Int) < 9) = true by simp; omega, IntWalk.i64_in ((j : Int) + 1) (by omega)]
    simp only [bne_self_eq_false, Bool.not_false, Bool.and_true, Bool.or_self, br_t, br_f]
    exact ⟨⟨ok⟩, ⟨ok⟩, ⟨ok⟩, ⟨ok⟩, hm⟩
structure okE (b : Brd) (i : Int) : Prop where
  fit : b.fit
  i : i = -1
def ptE (s : St) (K : Kont) : Prop := match s with
  | ⟨[(1, .i .u16 a), (2, .ptr 0 []), (5, .i .i64 i)], [x]⟩ => (match brdOf x with
    | some b => Chk (okE b i) ∧ K (Exit.exit 0) (sE a 9 b)
    | none => False)
  | _ => False
def lE : LCon := ⟨kE, ptE⟩
theorem inE (gam : List (Nat × Con)) (loop : List (Nat × Nat × LCon)) : LoopIn (EB gam loop) (29, 2, lE) := by
  refine loop_in hC_ok 1 Tryd.func29 (by kernel_rfl) fun s K hp => ?_
  change ptE s K at hp
  unfold ptE at hp
  split at hp
  · rename_i a i x
    split at hp
    · rename_i b hb
      obtain ⟨⟨hf, rfl⟩, k1⟩ := hp
      rw [brdOf_some hb]
      exact loopE K a b hf k1 10 (-1) (by omega) (by omega)
    · exact hp.elim
  · exact hp.elim
def LE : List (Nat × Nat × LCon) := [(29, 2, lE)]
theorem LE_ok (gam : List (Nat × Con)) : LoopsOK (EB gam LE) := loops_ok rfl ⟨inE _ _, trivial⟩
theorem hCE_ok : GamOK (EB hC LE) := gam_ok rfl ⟨con49.of, con32.of, con43.of, con61.of, con47.of, con57.of, con58.of, con33.of, con59.of, con60.of, con62.of, con63.of, con109.of, con125.of, con128.of, con30.of, con31.of, con108.of, con118.of, con127.of, con135.of, con27.of, con28.of, con133.of, con25.of, con26.of, con129.of, con56.of, con131.of, con24.of, con19.of, con20.of, con21.of, con41.of, con22.of, con23.of, con50.of, con51.of, con52.of, con53.of, trivial⟩

theorem t29 (b : Brd) (a : Int) (Z : SV → Prop) : (bodyK (EB hC LE) (callN (EB hC LE) 3) 29 Tryd.f29 [b.sv, .i .u16 a] [] (fun y _ => onB (y.cl 0) (Z y))) = (
  Chk (okE b (-1)) ∧
  Chk (okBW b a) ∧
    Chk (okBW b a) ∧
      br (!b.prgAt a != b.prgAt a && true)
        (Chk (okBW b a) ∧
          br (!b.prgAt a != b.prgAt a && true)
            (Chk (okBW b a) ∧
              br (!(b.prgAt a != b.prgAt a || b.chrAt a != b.chrAt a) && true)
                (Chk (okBW b (a.tmod 8192)) ∧
                  br (!(b.prgAt a != b.prgAt a || b.chrAt a != b.chrAt a) && true)
                    (Chk (okBW b (a.tmod 8192)) ∧
                      br (b.prgAt a != b.prgAt a || b.chrAt a != b.chrAt a || b.chrAt (a.tmod 8192) != b.chrAt (a.tmod 8192)) (Z (SV.b false))
                        (Chk (okBW b (ior IntKind.u16 a 32768)) ∧
                          Chk (okBW b (ior IntKind.u16 a 32768)) ∧
                            br (b.prgAt (ior IntKind.u16 a 32768) != b.prgAt (ior IntKind.u16 a 32768)) (Z (SV.b false))
                              (Chk b.fit ∧
                                Chk b.fit ∧
                                  br (b.mirN == b.mirN && true)
                                    (Chk (okBW b a) ∧
                                      br (b.mirN == b.mirN && true)
                                        (Chk (okBW b a) ∧
                                          br (b.mirN == b.mirN && b.pageN a == b.pageN a && true) (Chk b.fit ∧ br (b.mirN == b.mirN && b.pageN a == b.pageN a && true) (Chk b.fit ∧ Z (SV.b (b.mirN == b.mirN && b.pageN a == b.pageN a && b.ramN == b.ramN))) (Z (SV.b (b.mirN == b.mirN && b.pageN a == b.pageN a && b.ramN == 0))))
                                            (br (b.mirN == b.mirN && b.pageN a == b.pageN a && true) (Chk b.fit ∧ Z (SV.b (b.mirN == b.mirN && b.pageN a == b.pageN a && 0 == b.ramN))) (Z (SV.b (b.mirN == b.mirN && b.pageN a == b.pageN a && 0 == 0)))))
                                        (br (b.mirN == b.mirN && b.pageN a == 0 && true) (Chk b.fit ∧ br (b.mirN == b.mirN && b.pageN a == 0 && true) (Chk b.fit ∧ Z (SV.b (b.mirN == b.mirN && b.pageN a == 0 && b.ramN == b.ramN))) (Z (SV.b (b.mirN == b.mirN && b.pageN a == 0 && b.ramN == 0))))
                                          (br (b.mirN == b.mirN && b.pageN a == 0 && true) (Chk b.fit ∧ Z (SV.b (b.mirN == b.mirN && b.pageN a == 0 && 0 == b.ramN))) (Z (SV.b (b.mirN == b.mirN && b.pageN a == 0 && 0 == 0))))))
                                    (br (b.mirN == b.mirN && true)
                                      (Chk (okBW b a) ∧
                                        br (b.mirN == b.mirN && 0 == b.pageN a && true) (Chk b.fit ∧ br (b.mirN == b.mirN && 0 == b.pageN a && true) (Chk b.fit ∧ Z (SV.b (b.mirN == b.mirN && 0 == b.pageN a && b.ramN == b.ramN))) (Z (SV.b (b.mirN == b.mirN && 0 == b.pageN a && b.ramN == 0))))
                                          (br (b.mirN == b.mirN && 0 == b.pageN a && true) (Chk b.fit ∧ Z (SV.b (b.mirN == b.mirN && 0 == b.pageN a && 0 == b.ramN))) (Z (SV.b (b.mirN == b.mirN && 0 == b.pageN a && 0 == 0)))))
                                      (br (b.mirN == b.mirN && 0 == 0 && true) (Chk b.fit ∧ br (b.mirN == b.mirN && 0 == 0 && true) (Chk b.fit ∧ Z (SV.b (b.mirN == b.mirN && 0 == 0 && b.ramN == b.ramN))) (Z (SV.b (b.mirN == b.mirN && 0 == 0 && b.ramN == 0))))
                                        (br (b.mirN == b.mirN && 0 == 0 && true) (Chk b.fit ∧ Z (SV.b (b.mirN == b.mirN && 0 == 0 && 0 == b.ramN))) (Z (SV.b (b.mirN == b.mirN && 0 == 0 && 0 == 0)))))))))
                    (br (b.prgAt a != b.prgAt a || b.chrAt a != b.chrAt a || b.chrAt (a.tmod 8192) != 0) (Z (SV.b false))
                      (Chk (okBW b (ior IntKind.u16 a 32768)) ∧
                        Chk (okBW b (ior IntKind.u16 a 32768)) ∧
                          br (b.prgAt (ior IntKind.u16 a 32768) != b.prgAt (ior IntKind.u16 a 32768)) (Z (SV.b false))
                            (Chk b.fit ∧
                              Chk b.fit ∧
                                br (b.mirN == b.mirN && true)
                                  (Chk (okBW b a) ∧
                                    br (b.mirN == b.mirN && true)
                                      (Chk (okBW b a) ∧
                                        br (b.mirN == b.mirN && b.pageN a == b.pageN a && true) (Chk b.fit ∧ br (b.mirN == b.mirN && b.pageN a == b.pageN a && true) (Chk b.fit ∧ Z (SV.b (b.mirN == b.mirN && b.pageN a == b.pageN a && b.ramN == b.ramN))) (Z (SV.b (b.mirN == b.mirN && b.pageN a == b.pageN a && b.ramN == 0))))
                                          (br (b.mirN == b.mirN && b.pageN a == b.pageN a && true) (Chk b.fit ∧ Z (SV.b (b.mirN == b.mirN && b.pageN a == b.pageN a && 0 == b.ramN))) (Z (SV.b (b.mirN == b.mirN && b.pageN a == b.pageN a && 0 == 0)))))
                                      (br (b.mirN == b.mirN && b.pageN a == 0 && true) (Chk b.fit ∧ br (b.mirN == b.mirN && b.pageN a == 0 && true) (Chk b.fit ∧ Z (SV.b (b.mirN == b.mirN && b.pageN a == 0 && b.ramN == b.ramN))) (Z (SV.b (b.mirN == b.mirN && b.pageN a == 0 && b.ramN == 0))))
                                        (br (b.mirN == b.mirN && b.pageN a == 0 && true) (Chk b.fit ∧ Z (SV.b (b.mirN == b.mirN && b.pageN a == 0 && 0 == b.ramN))) (Z (SV.b (b.mirN == b.mirN && b.pageN a == 0 && 0 == 0))))))
                                  (br (b.mirN == b.mirN && true)
                                    (Chk (okBW b a) ∧
                                      br (b.mirN == b.mirN && 0 == b.pageN a && true) (Chk b.fit ∧ br (b.mirN == b.mirN && 0 == b.pageN a && true) (Chk b.fit ∧ Z (SV.b (b.mirN == b.mirN && 0 == b.pageN a && b.ramN == b.ramN))) (Z (SV.b (b.mirN == b.mirN && 0 == b.pageN a && b.ramN == 0))))
                                        (br (b.mirN == b.mirN && 0 == b.pageN a && true) (Chk b.fit ∧ Z (SV.b (b.mirN == b.mirN && 0 == b.pageN a && 0 == b.ramN))) (Z (SV.b (b.mirN == b.mirN && 0 == b.pageN a && 0 == 0)))))
                                    (br (b.mirN == b.mirN && 0 == 0 && true) (Chk b.fit ∧ br (b.mirN == b.mirN && 0 == 0 && true) (Chk b.fit ∧ Z (SV.b (b.mirN == b.mirN && 0 == 0 && b.ramN == b.ramN))) (Z (SV.b (b.mirN == b.mirN && 0 == 0 && b.ramN == 0))))
                                      (br (b.mirN == b.mirN && 0 == 0 && true) (Chk b.fit ∧ Z (SV.b (b.mirN == b.mirN && 0 == 0 && 0 == b.ramN))) (Z (SV.b (b.mirN == b.mirN && 0 == 0 && 0 == 0))))))))))
                (br (!(b.prgAt a != b.prgAt a || b.chrAt a != b.chrAt a) && true)
                  (Chk (okBW b (a.tmod 8192)) ∧
                    br (b.prgAt a != b.prgAt a || b.chrAt a != b.chrAt a || 0 != b.chrAt (a.tmod 8192)) (Z (SV.b false))
                      (Chk (okBW b (ior IntKind.u16 a 32768)) ∧
                        Chk (okBW b (ior IntKind.u16 a 32768)) ∧
                          br (b.prgAt (ior IntKind.u16 a 32768) != b.prgAt (ior IntKind.u16 a 32768)) (Z (SV.b false))
                            (Chk b.fit ∧
                              Chk b.fit ∧
                                br (b.mirN == b.mirN && true)
                                  (Chk (okBW b a) ∧
                                    br (b.mirN == b.mirN && true)
                                      (Chk (okBW b a) ∧
                                        br (b.mirN == b.mirN && b.pageN a == b.pageN a && true) (Chk b.fit ∧ br (b.mirN == b.mirN && b.pageN a == b.pageN a && true) (Chk b.fit ∧ Z (SV.b (b.mirN == b.mirN && b.pageN a == b.pageN a && b.ramN == b.ramN))) (Z (SV.b (b.mirN == b.mirN && b.pageN a == b.pageN a && b.ramN == 0))))
                                          (br (b.mirN == b.mirN && b.pageN a == b.pageN a && true) (Chk b.fit ∧ Z (SV.b (b.mirN == b.mirN && b.pageN a == b.pageN a && 0 == b.ramN))) (Z (SV.b (b.mirN == b.mirN && b.pageN a == b.pageN a && 0 == 0)))))
                                      (br (b.mirN == b.mirN && b.pageN a == 0 && true) (Chk b.fit ∧ br (b.mirN == b.mirN && b.pageN a == 0 && true) (Chk b.fit ∧ Z (SV.b (b.mirN == b.mirN && b.pageN a == 0 && b.ramN == b.ramN))) (Z (SV.b (b.mirN == b.mirN && b.pageN a == 0 && b.ramN == 0))))
                                        (br (b.mirN == b.mirN && b.pageN a == 0 && true) (Chk b.fit ∧ Z (SV.b (b.mirN == b.mirN && b.pageN a == 0 && 0 == b.ramN))) (Z (SV.b (b.mirN == b.mirN && b.pageN a == 0 && 0 == 0))))))
                                  (br (b.mirN == b.mirN && true)
                                    (Chk (okBW b a) ∧
                                      br (b.mirN == b.mirN && 0 == b.pageN a && true) (Chk b.fit ∧ br (b.mirN == b.mirN && 0 == b.pageN a && true) (Chk b.fit ∧ Z (SV.b (b.mirN == b.mirN && 0 == b.pageN a && b.ramN == b.ramN))) (Z (SV.b (b.mirN == b.mirN && 0 == b.pageN a && b.ramN == 0))))
                                        (br (b.mirN == b.mirN && 0 == b.pageN a && true) (Chk b.fit ∧ Z (SV.b (b.mirN == b.mirN && 0 == b.pageN a && 0 == b.ramN))) (Z (SV.b (b.mirN == b.mirN && 0 == b.pageN a && 0 == 0)))))
                                    (br (b.mirN == b.mirN && 0 == 0 && true) (Chk b.fit ∧ br (b.mirN == b.mirN && 0 == 0 && true) (Chk b.fit ∧ Z (SV.b (b.mirN == b.mirN && 0 == 0 && b.ramN == b.ramN))) (Z (SV.b (b.mirN == b.mirN && 0 == 0 && b.ramN == 0))))
                                      (br (b.mirN == b.mirN && 0 == 0 && true) (Chk b.fit ∧ Z (SV.b (b.mirN == b.mirN && 0 == 0 && 0 == b.ramN))) (Z (SV.b (b.mirN == b.mirN && 0 == 0 && 0 == 0)))))))))
                  (br (b.prgAt a != b.prgAt a || b.chrAt a != b.chrAt a || 0 != 0) (Z (SV.b false))
                    (Chk (okBW b (ior IntKind.u16 a 32768)) ∧
                      Chk (okBW b (ior IntKind.u16 a 32768)) ∧
                        br (b.prgAt (ior IntKind.u16 a 32768) != b.prgAt (ior IntKind.u16 a 32768)) (Z (SV.b false))
                          (Chk b.fit ∧
                            Chk b.fit ∧
                              br (b.mirN == b.mirN && true)
                                (Chk (okBW b a) ∧
                                  br (b.mirN == b.mirN && true)
                                    (Chk (okBW b a) ∧
                                      br (b.mirN == b.mirN && b.pageN a == b.pageN a && true) (Chk b.fit ∧ br (b.mirN == b.mirN && b.pageN a == b.pageN a && true) (Chk b.fit ∧ Z (SV.b (b.mirN == b.mirN && b.pageN a == b.pageN a && b.ramN == b.ramN))) (Z (SV.b (b.mirN == b.mirN && b.pageN a == b.pageN a && b.ramN == 0))))
                                        (br (b.mirN == b.mirN && b.pageN a == b.pageN a && true) (Chk b.fit ∧ Z (SV.b (b.mirN == b.mirN && b.pageN a == b.pageN a && 0 == b.ramN))) (Z (SV.b (b.mirN == b.mirN && b.pageN a == b.pageN a && 0 == 0)))))
                                    (br (b.mirN == b.mirN && b.pageN a == 0 && true) (Chk b.fit ∧ br (b.mirN == b.mirN && b.pageN a == 0 && true) (Chk b.fit ∧ Z (SV.b (b.mirN == b.mirN && b.pageN a == 0 && b.ramN == b.ramN))) (Z (SV.b (b.mirN == b.mirN && b.pageN a == 0 && b.ramN == 0))))
                                      (br (b.mirN == b.mirN && b.pageN a == 0 && true) (Chk b.fit ∧ Z (SV.b (b.mirN == b.mirN && b.pageN a == 0 && 0 == b.ramN))) (Z (SV.b (b.mirN == b.mirN && b.pageN a == 0 && 0 == 0))))))
                                (br (b.mirN == b.mirN && true)
                                  (Chk (okBW b a) ∧
                                    br (b.mirN == b.mirN && 0 == b.pageN a && true) (Chk b.fit ∧ br (b.mirN == b.mirN && 0 == b.pageN a && true) (Chk b.fit ∧ Z (SV.b (b.mirN == b.mirN && 0 == b.pageN a && b.ramN == b.ramN))) (Z (SV.b (b.mirN == b.mirN && 0 == b.pageN a && b.ramN == 0))))
                                      (br (b.mirN == b.mirN && 0 == b.pageN a && true) (Chk b.fit ∧ Z (SV.b (b.mirN == b.mirN && 0 == b.pageN a && 0 == b.ramN))) (Z (SV.b (b.mirN == b.mirN && 0 == b.pageN a && 0 == 0)))))
                                  (br (b.mirN == b.mirN && 0 == 0 && true) (Chk b.fit ∧ br (b.mirN == b.mirN && 0 == 0 && true) (Chk b.fit ∧ Z (SV.b (b.mirN == b.mirN && 0 == 0 && b.ramN == b.ramN))) (Z (SV.b (b.mirN == b.mirN && 0 == 0 && b.ramN == 0))))
                                    (br (b.mirN == b.mirN && 0 == 0 && true) (Chk b.fit ∧ Z (SV.b (b.mirN == b.mirN && 0 == 0 && 0 == b.ramN))) (Z (SV.b (b.mirN == b.mirN && 0 == 0 && 0 == 0)))))))))))
            (br (!(b.prgAt a != b.prgAt a || b.chrAt a != 0) && true)
              (Chk (okBW b (a.tmod 8192)) ∧
                br (!(b.prgAt a != b.prgAt a || b.chrAt a != 0) && true)
                  (Chk (okBW b (a.tmod 8192)) ∧
                    br (b.prgAt a != b.prgAt a || b.chrAt a != 0 || b.chrAt (a.tmod 8192) != b.chrAt (a.tmod 8192)) (Z (SV.b false))
                      (Chk (okBW b (ior IntKind.u16 a 32768)) ∧
                        Chk (okBW b (ior IntKind.u16 a 32768)) ∧
                          br (b.prgAt (ior IntKind.u16 a 32768) != b.prgAt (ior IntKind.u16 a 32768)) (Z (SV.b false))
                            (Chk b.fit ∧
                              Chk b.fit ∧
                                br (b.mirN == b.mirN && true)
                                  (Chk (okBW b a) ∧
                                    br (b.mirN == b.mirN && true)
                                      (Chk (okBW b a) ∧
                                        br (b.mirN == b.mirN && b.pageN a == b.pageN a && true) (Chk b.fit ∧ br (b.mirN == b.mirN && b.pageN a == b.pageN a && true) (Chk b.fit ∧ Z (SV.b (b.mirN == b.mirN && b.pageN a == b.pageN a && b.ramN == b.ramN))) (Z (SV.b (b.mirN == b.mirN && b.pageN a == b.pageN a && b.ramN == 0))))
                                          (br (b.mirN == b.mirN && b.pageN a == b.pageN a && true) (Chk b.fit ∧ Z (SV.b (b.mirN == b.mirN && b.pageN a == b.pageN a && 0 == b.ramN))) (Z (SV.b (b.mirN == b.mirN && b.pageN a == b.pageN a && 0 == 0)))))
                                      (br (b.mirN == b.mirN && b.pageN a == 0 && true) (Chk b.fit ∧ br (b.mirN == b.mirN && b.pageN a == 0 && true) (Chk b.fit ∧ Z (SV.b (b.mirN == b.mirN && b.pageN a == 0 && b.ramN == b.ramN))) (Z (SV.b (b.mirN == b.mirN && b.pageN a == 0 && b.ramN == 0))))
                                        (br (b.mirN == b.mirN && b.pageN a == 0 && true) (Chk b.fit ∧ Z (SV.b (b.mirN == b.mirN && b.pageN a == 0 && 0 == b.ramN))) (Z (SV.b (b.mirN == b.mirN && b.pageN a == 0 && 0 == 0))))))
                                  (br (b.mirN == b.mirN && true)
                                    (Chk (okBW b a) ∧
                                      br (b.mirN == b.mirN && 0 == b.pageN a && true) (Chk b.fit ∧ br (b.mirN == b.mirN && 0 == b.pageN a && true) (Chk b.fit ∧ Z (SV.b (b.mirN == b.mirN && 0 == b.pageN a && b.ramN == b.ramN))) (Z (SV.b (b.mirN == b.mirN && 0 == b.pageN a && b.ramN == 0))))
                                        (br (b.mirN == b.mirN && 0 == b.pageN a && true) (Chk b.fit ∧ Z (SV.b (b.mirN == b.mirN && 0 == b.pageN a && 0 == b.ramN))) (Z (SV.b (b.mirN == b.mirN && 0 == b.pageN a && 0 == 0)))))
                                    (br (b.mirN == b.mirN && 0 == 0 && true) (Chk b.fit ∧ br (b.mirN == b.mirN && 0 == 0 && true) (Chk b.fit ∧ Z (SV.b (b.mirN == b.mirN && 0 == 0 && b.ramN == b.ramN))) (Z (SV.b (b.mirN == b.mirN && 0 == 0 && b.ramN == 0))))
                                      (br (b.mirN == b.mirN && 0 == 0 && true) (Chk b.fit ∧ Z (SV.b (b.mirN == b.mirN && 0 == 0 && 0 == b.ramN))) (Z (SV.b (b.mirN == b.mirN && 0 == 0 && 0 == 0)))))))))
                  (br (b.prgAt a != b.prgAt a || b.chrAt a != 0 || b.chrAt (a.tmod 8192) != 0) (Z (SV.b false))
                    (Chk (okBW b (ior IntKind.u16 a 32768)) ∧
                      Chk (okBW b (ior IntKind.u16 a 32768)) ∧
                        br (b.prgAt (ior IntKind.u16 a 32768) != b.prgAt (ior IntKind.u16 a 32768)) (Z (SV.b false))
                          (Chk b.fit ∧
                            Chk b.fit ∧
                              br (b.mirN == b.mirN && true)
                                (Chk (okBW b a) ∧
                                  br (b.mirN == b.mirN && true)
                                    (Chk (okBW b a) ∧
                                      br (b.mirN == b.mirN && b.pageN a == b.pageN a && true) (Chk b.fit ∧ br (b.mirN == b.mirN && b.pageN a == b.pageN a && true) (Chk b.fit ∧ Z (SV.b (b.mirN == b.mirN && b.pageN a == b.pageN a && b.ramN == b.ramN))) (Z (SV.b (b.mirN == b.mirN && b.pageN a == b.pageN a && b.ramN == 0))))
                                        (br (b.mirN == b.mirN && b.pageN a == b.pageN a && true) (Chk b.fit ∧ Z (SV.b (b.mirN == b.mirN && b.pageN a == b.pageN a && 0 == b.ramN))) (Z (SV.b (b.mirN == b.mirN && b.pageN a == b.pageN a && 0 == 0)))))
                                    (br (b.mirN == b.mirN && b.pageN a == 0 && true) (Chk b.fit ∧ br (b.mirN == b.mirN && b.pageN a == 0 && true) (Chk b.fit ∧ Z (SV.b (b.mirN == b.mirN && b.pageN a == 0 && b.ramN == b.ramN))) (Z (SV.b (b.mirN == b.mirN && b.pageN a == 0 && b.ramN == 0))))
                                      (br (b.mirN == b.mirN && b.pageN a == 0 && true) (Chk b.fit ∧ Z (SV.b (b.mirN == b.mirN && b.pageN a == 0 && 0 == b.ramN))) (Z (SV.b (b.mirN == b.mirN && b.pageN a == 0 && 0 == 0))))))
                                (br (b.mirN == b.mirN && true)
                                  (Chk (okBW b a) ∧
                                    br (b.mirN == b.mirN && 0 == b.pageN a && true) (Chk b.fit ∧ br (b.mirN == b.mirN && 0 == b.pageN a && true) (Chk b.fit ∧ Z (SV.b (b.mirN == b.mirN && 0 == b.pageN a && b.ramN == b.ramN))) (Z (SV.b (b.mirN == b.mirN && 0 == b.pageN a && b.ramN == 0))))
                                      (br (b.mirN == b.mirN && 0 == b.pageN a && true) (Chk b.fit ∧ Z (SV.b (b.mirN == b.mirN && 0 == b.pageN a && 0 == b.ramN))) (Z (SV.b (b.mirN == b.mirN && 0 == b.pageN a && 0 == 0)))))
                                  (br (b.mirN == b.mirN && 0 == 0 && true) (Chk b.fit ∧ br (b.mirN == b.mirN && 0 == 0 && true) (Chk b.fit ∧ Z (SV.b (b.mirN == b.mirN && 0 == 0 && b.ramN == b.ramN))) (Z (SV.b (b.mirN == b.mirN && 0 == 0 && b.ramN == 0))))
                                    (br (b.mirN == b.mirN && 0 == 0 && true) (Chk b.fit ∧ Z (SV.b (b.mirN == b.mirN && 0 == 0 && 0 == b.ramN))) (Z (SV.b (b.mirN == b.mirN && 0 == 0 && 0 == 0))))))))))
              (br (!(b.prgAt a != b.prgAt a || b.chrAt a != 0) && true)
                (Chk (okBW b (a.tmod 8192)) ∧
                  br (b.prgAt a != b.prgAt a || b.chrAt a != 0 || 0 != b.chrAt (a.tmod 8192)) (Z (SV.b false))
                    (Chk (okBW b (ior IntKind.u16 a 32768)) ∧
                      Chk (okBW b (ior IntKind.u16 a 32768)) ∧
                        br (b.prgAt (ior IntKind.u16 a 32768) != b.prgAt (ior IntKind.u16 a 32768)) (Z (SV.b false))
                          (Chk b.fit ∧
                            Chk b.fit ∧
                              br (b.mirN == b.mirN && true)
                                (Chk (okBW b a) ∧
                                  br (b.mirN == b.mirN && true)
                                    (Chk (okBW b a) ∧
                                      br (b.mirN == b.mirN && b.pageN a == b.pageN a && true) (Chk b.fit ∧ br (b.mirN == b.mirN && b.pageN a == b.pageN a && true) (Chk b.fit ∧ Z (SV.b (b.mirN == b.mirN && b.pageN a == b.pageN a && b.ramN == b.ramN))) (Z (SV.b (b.mirN == b.mirN && b.pageN a == b.pageN a && b.ramN == 0))))
                                        (br (b.mirN == b.mirN && b.pageN a == b.pageN a && true) (Chk b.fit ∧ Z (SV.b (b.mirN == b.mirN && b.pageN a == b.pageN a && 0 == b.ramN))) (Z (SV.b (b.mirN == b.mirN && b.pageN a == b.pageN a && 0 == 0)))))
                                    (br (b.mirN == b.mirN && b.pageN a == 0 && true) (Chk b.fit ∧ br (b.mirN == b.mirN && b.pageN a == 0 && true) (Chk b.fit ∧ Z (SV.b (b.mirN == b.mirN && b.pageN a == 0 && b.ramN == b.ramN))) (Z (SV.b (b.mirN == b.mirN && b.pageN a == 0 && b.ramN == 0))))
                                      (br (b.mirN == b.mirN && b.pageN a == 0 && true) (Chk b.fit ∧ Z (SV.b (b.mirN == b.mirN && b.pageN a == 0 && 0 == b.ramN))) (Z (SV.b (b.mirN == b.mirN && b.pageN a == 0 && 0 == 0))))))
                                (br (b.mirN == b.mirN && true)
                                  (Chk (okBW b a) ∧
                                    br (b.mirN == b.mirN && 0 == b.pageN a && true) (Chk b.fit ∧ br (b.mirN == b.mirN && 0 == b.pageN a && true) (Chk b.fit ∧ Z (SV.b (b.mirN == b.mirN && 0 == b.pageN a && b.ramN == b.ramN))) (Z (SV.b (b.mirN == b.mirN && 0 == b.pageN a && b.ramN == 0))))
                                      (br (b.mirN == b.mirN && 0 == b.pageN a && true) (Chk b.fit ∧ Z (SV.b (b.mirN == b.mirN && 0 == b.pageN a && 0 == b.ramN))) (Z (SV.b (b.mirN == b.mirN && 0 == b.pageN a && 0 == 0)))))
                                  (br (b.mirN == b.mirN && 0 == 0 && true) (Chk b.fit ∧ br (b.mirN == b.mirN && 0 == 0 && true) (Chk b.fit ∧ Z (SV.b (b.mirN == b.mirN && 0 == 0 && b.ramN == b.ramN))) (Z (SV.b (b.mirN == b.mirN && 0 == 0 && b.ramN == 0))))
                                    (br (b.mirN == b.mirN && 0 == 0 && true) (Chk b.fit ∧ Z (SV.b (b.mirN == b.mirN && 0 == 0 && 0 == b.ramN))) (Z (SV.b (b.mirN == b.mirN && 0 == 0 && 0 == 0)))))))))
                (br (b.prgAt a != b.prgAt a || b.chrAt a != 0 || 0 != 0) (Z (SV.b false))
                  (Chk (okBW b (ior IntKind.u16 a 32768)) ∧
                    Chk (okBW b (ior IntKind.u16 a 32768)) ∧
                      br (b.prgAt (ior IntKind.u16 a 32768) != b.prgAt (ior IntKind.u16 a 32768)) (Z (SV.b false))
                        (Chk b.fit ∧
                          Chk b.fit ∧
                            br (b.mirN == b.mirN && true)
                              (Chk (okBW b a) ∧
                                br (b.mirN == b.mirN && true)
                                  (Chk (okBW b a) ∧
                                    br (b.mirN == b.mirN && b.pageN a == b.pageN a && true) (Chk b.fit ∧ br (b.mirN == b.mirN && b.pageN a == b.pageN a && true) (Chk b.fit ∧ Z (SV.b (b.mirN == b.mirN && b.pageN a == b.pageN a && b.ramN == b.ramN))) (Z (SV.b (b.mirN == b.mirN && b.pageN a == b.pageN a && b.ramN == 0))))
                                      (br (b.mirN == b.mirN && b.pageN a == b.pageN a && true) (Chk b.fit ∧ Z (SV.b (b.mirN == b.mirN && b.pageN a == b.pageN a && 0 == b.ramN))) (Z (SV.b (b.mirN == b.mirN && b.pageN a == b.pageN a && 0 == 0)))))
                                  (br (b.mirN == b.mirN && b.pageN a == 0 && true) (Chk b.fit ∧ br (b.mirN == b.mirN && b.pageN a == 0 && true) (Chk b.fit ∧ Z (SV.b (b.mirN == b.mirN && b.pageN a == 0 && b.ramN == b.ramN))) (Z (SV.b (b.mirN == b.mirN && b.pageN a == 0 && b.ramN == 0))))
                                    (br (b.mirN == b.mirN && b.pageN a == 0 && true) (Chk b.fit ∧ Z (SV.b (b.mirN == b.mirN && b.pageN a == 0 && 0 == b.ramN))) (Z (SV.b (b.mirN == b.mirN && b.pageN a == 0 && 0 == 0))))))
                              (br (b.mirN == b.mirN && true)
                                (Chk (okBW b a) ∧
                                  br (b.mirN == b.mirN && 0 == b.pageN a && true) (Chk b.fit ∧ br (b.mirN == b.mirN && 0 == b.pageN a && true) (Chk b.fit ∧ Z (SV.b (b.mirN == b.mirN && 0 == b.pageN a && b.ramN == b.ramN))) (Z (SV.b (b.mirN == b.mirN && 0 == b.pageN a && b.ramN == 0))))
                                    (br (b.mirN == b.mirN && 0 == b.pageN a && true) (Chk b.fit ∧ Z (SV.b (b.mirN == b.mirN && 0 == b.pageN a && 0 == b.ramN))) (Z (SV.b (b.mirN == b.mirN && 0 == b.pageN a && 0 == 0)))))
                                (br (b.mirN == b.mirN && 0 == 0 && true) (Chk b.fit ∧ br (b.mirN == b.mirN && 0 == 0 && true) (Chk b.fit ∧ Z (SV.b (b.mirN == b.mirN && 0 == 0 && b.ramN == b.ramN))) (Z (SV.b (b.mirN == b.mirN && 0 == 0 && b.ramN == 0))))
                                  (br (b.mirN == b.mirN && 0 == 0 && true) (Chk b.fit ∧ Z (SV.b (b.mirN == b.mirN && 0 == 0 && 0 == b.ramN))) (Z (SV.b (b.mirN == b.mirN && 0 == 0 && 0 == 0))))))))))))
        (br (!b.prgAt a != b.prgAt a && true)
          (Chk (okBW b a) ∧
            br (!(b.prgAt a != b.prgAt a || 0 != b.chrAt a) && true)
              (Chk (okBW b (a.tmod 8192)) ∧
                br (!(b.prgAt a != b.prgAt a || 0 != b.chrAt a) && true)
                  (Chk (okBW b (a.tmod 8192)) ∧
                    br (b.prgAt a != b.prgAt a || 0 != b.chrAt a || b.chrAt (a.tmod 8192) != b.chrAt (a.tmod 8192)) (Z (SV.b false))
                      (Chk (okBW b (ior IntKind.u16 a 32768)) ∧
                        Chk (okBW b (ior IntKind.u16 a 32768)) ∧
                          br (b.prgAt (ior IntKind.u16 a 32768) != b.prgAt (ior IntKind.u16 a 32768)) (Z (SV.b false))
                            (Chk b.fit ∧
                              Chk b.fit ∧
                                br (b.mirN == b.mirN && true)
                                  (Chk (okBW b a) ∧
                                    br (b.mirN == b.mirN && true)
                                      (Chk (okBW b a) ∧
                                        br (b.mirN == b.mirN && b.pageN a == b.pageN a && true) (Chk b.fit ∧ br (b.mirN == b.mirN && b.pageN a == b.pageN a && true) (Chk b.fit ∧ Z (SV.b (b.mirN == b.mirN && b.pageN a == b.pageN a && b.ramN == b.ramN))) (Z (SV.b (b.mirN == b.mirN && b.pageN a == b.pageN a && b.ramN == 0))))
                                          (br (b.mirN == b.mirN && b.pageN a == b.pageN a && true) (Chk b.fit ∧ Z (SV.b (b.mirN == b.mirN && b.pageN a == b.pageN a && 0 == b.ramN))) (Z (SV.b (b.mirN == b.mirN && b.pageN a == b.pageN a && 0 == 0)))))
                                      (br (b.mirN == b.mirN && b.pageN a == 0 && true) (Chk b.fit ∧ br (b.mirN == b.mirN && b.pageN a == 0 && true) (Chk b.fit ∧ Z (SV.b (b.mirN == b.mirN && b.pageN a == 0 && b.ramN == b.ramN))) (Z (SV.b (b.mirN == b.mirN && b.pageN a == 0 && b.ramN == 0))))
                                        (br (b.mirN == b.mirN && b.pageN a == 0 && true) (Chk b.fit ∧ Z (SV.b (b.mirN == b.mirN && b.pageN a == 0 && 0 == b.ramN))) (Z (SV.b (b.mirN == b.mirN && b.pageN a == 0 && 0 == 0))))))
                                  (br (b.mirN == b.mirN && true)
                                    (Chk (okBW b a) ∧
                                      br (b.mirN == b.mirN && 0 == b.pageN a && true) (Chk b.fit ∧ br (b.mirN == b.mirN && 0 == b.pageN a && true) (Chk b.fit ∧ Z (SV.b (b.mirN == b.mirN && 0 == b.pageN a && b.ramN == b.ramN))) (Z (SV.b (b.mirN == b.mirN && 0 == b.pageN a && b.ramN == 0))))
                                        (br (b.mirN == b.mirN && 0 == b.pageN a && true) (Chk b.fit ∧ Z (SV.b (b.mirN == b.mirN && 0 == b.pageN a && 0 == b.ramN))) (Z (SV.b (b.mirN == b.mirN && 0 == b.pageN a && 0 == 0)))))
                                    (br (b.mirN == b.mirN && 0 == 0 && true) (Chk b.fit ∧ br (b.mirN == b.mirN && 0 == 0 && true) (Chk b.fit ∧ Z (SV.b (b.mirN == b.mirN && 0 == 0 && b.ramN == b.ramN))) (Z (SV.b (b.mirN == b.mirN && 0 == 0 && b.ramN == 0))))
                                      (br (b.mirN == b.mirN && 0 == 0 && true) (Chk b.fit ∧ Z (SV.b (b.mirN == b.mirN && 0 == 0 && 0 == b.ramN))) (Z (SV.b (b.mirN == b.mirN && 0 == 0 && 0 == 0)))))))))
                  (br (b.prgAt a != b.prgAt a || 0 != b.chrAt a || b.chrAt (a.tmod 8192) != 0) (Z (SV.b false))
                    (Chk (okBW b (ior IntKind.u16 a 32768)) ∧
                      Chk (okBW b (ior IntKind.u16 a 32768)) ∧
                        br (b.prgAt (ior IntKind.u16 a 32768) != b.prgAt (ior IntKind.u16 a 32768)) (Z (SV.b false))
                          (Chk b.fit ∧
                            Chk b.fit ∧
                              br (b.mirN == b.mirN && true)
                                (Chk (okBW b a) ∧
                                  br (b.mirN == b.mirN && true)
                                    (Chk (okBW b a) ∧
                                      br (b.mirN == b.mirN && b.pageN a == b.pageN a && true) (Chk b.fit ∧ br (b.mirN == b.mirN && b.pageN a == b.pageN a && true) (Chk b.fit ∧ Z (SV.b (b.mirN == b.mirN && b.pageN a == b.pageN a && b.ramN == b.ramN))) (Z (SV.b (b.mirN == b.mirN && b.pageN a == b.pageN a && b.ramN == 0))))
                                        (br (b.mirN == b.mirN && b.pageN a == b.pageN a && true) (Chk b.fit ∧ Z (SV.b (b.mirN == b.mirN && b.pageN a == b.pageN a && 0 == b.ramN))) (Z (SV.b (b.mirN == b.mirN && b.pageN a == b.pageN a && 0 == 0)))))
                                    (br (b.mirN == b.mirN && b.pageN a == 0 && true) (Chk b.fit ∧ br (b.mirN == b.mirN && b.pageN a == 0 && true) (Chk b.fit ∧ Z (SV.b (b.mirN == b.mirN && b.pageN a == 0 && b.ramN == b.ramN))) (Z (SV.b (b.mirN == b.mirN && b.pageN a == 0 && b.ramN == 0))))
                                      (br (b.mirN == b.mirN && b.pageN a == 0 && true) (Chk b.fit ∧ Z (SV.b (b.mirN == b.mirN && b.pageN a == 0 && 0 == b.ramN))) (Z (SV.b (b.mirN == b.mirN && b.pageN a == 0 && 0 == 0))))))
                                (br (b.mirN == b.mirN && true)
                                  (Chk (okBW b a) ∧
                                    br (b.mirN == b.mirN && 0 == b.pageN a && true) (Chk b.fit ∧ br (b.mirN == b.mirN && 0 == b.pageN a && true) (Chk b.fit ∧ Z (SV.b (b.mirN == b.mirN && 0 == b.pageN a && b.ramN == b.ramN))) (Z (SV.b (b.mirN == b.mirN && 0 == b.pageN a && b.ramN == 0))))
                                      (br (b.mirN == b.mirN && 0 == b.pageN a && true) (Chk b.fit ∧ Z (SV.b (b.mirN == b.mirN && 0 == b.pageN a && 0 == b.ramN))) (Z (SV.b (b.mirN == b.mirN && 0 == b.pageN a && 0 == 0)))))
                                  (br (b.mirN == b.mirN && 0 == 0 && true) (Chk b.fit ∧ br (b.mirN == b.mirN && 0 == 0 && true) (Chk b.fit ∧ Z (SV.b (b.mirN == b.mirN && 0 == 0 && b.ramN == b.ramN))) (Z (SV.b (b.mirN == b.mirN && 0 == 0 && b.ramN == 0))))
                                    (br (b.mirN == b.mirN && 0 == 0 && true) (Chk b.fit ∧ Z (SV.b (b.mirN == b.mirN && 0 == 0 && 0 == b.ramN))) (Z (SV.b (b.mirN == b.mirN && 0 == 0 && 0 == 0))))))))))
              (br (!(b.prgAt a != b.prgAt a || 0 != b.chrAt a) && true)
                (Chk (okBW b (a.tmod 8192)) ∧
                  br (b.prgAt a != b.prgAt a || 0 != b.chrAt a || 0 != b.chrAt (a.tmod 8192)) (Z (SV.b false))
                    (Chk (okBW b (ior IntKind.u16 a 32768)) ∧
                      Chk (okBW b (ior IntKind.u16 a 32768)) ∧
                        br (b.prgAt (ior IntKind.u16 a 32768) != b.prgAt (ior IntKind.u16 a 32768)) (Z (SV.b false))
                          (Chk b.fit ∧
                            Chk b.fit ∧
                              br (b.mirN == b.mirN && true)
                                (Chk (okBW b a) ∧
                                  br (b.mirN == b.mirN && true)
                                    (Chk (okBW b a) ∧
                                      br (b.mirN == b.mirN && b.pageN a == b.pageN a && true) (Chk b.fit ∧ br (b.mirN == b.mirN && b.pageN a == b.pageN a && true) (Chk b.fit ∧ Z (SV.b (b.mirN == b.mirN && b.pageN a == b.pageN a && b.ramN == b.ramN))) (Z (SV.b (b.mirN == b.mirN && b.pageN a == b.pageN a && b.ramN == 0))))
                                        (br (b.mirN == b.mirN && b.pageN a == b.pageN a && true) (Chk b.fit ∧ Z (SV.b (b.mirN == b.mirN && b.pageN a == b.pageN a && 0 == b.ramN))) (Z (SV.b (b.mirN == b.mirN && b.pageN a == b.pageN a && 0 == 0)))))
                                    (br (b.mirN == b.mirN && b.pageN a == 0 && true) (Chk b.fit ∧ br (b.mirN == b.mirN && b.pageN a == 0 && true) (Chk b.fit ∧ Z (SV.b (b.mirN == b.mirN && b.pageN a == 0 && b.ramN == b.ramN))) (Z (SV.b (b.mirN == b.mirN && b.pageN a == 0 && b.ramN == 0))))
                                      (br (b.mirN == b.mirN && b.pageN a == 0 && true) (Chk b.fit ∧ Z (SV.b (b.mirN == b.mirN && b.pageN a == 0 && 0 == b.ramN))) (Z (SV.b (b.mirN == b.mirN && b.pageN a == 0 && 0 == 0))))))
                                (br (b.mirN == b.mirN && true)
                                  (Chk (okBW b a) ∧
                                    br (b.mirN == b.mirN && 0 == b.pageN a && true) (Chk b.fit ∧ br (b.mirN == b.mirN && 0 == b.pageN a && true) (Chk b.fit ∧ Z (SV.b (b.mirN == b.mirN && 0 == b.pageN a && b.ramN == b.ramN))) (Z (SV.b (b.mirN == b.mirN && 0 == b.pageN a && b.ramN == 0))))
                                      (br (b.mirN == b.mirN && 0 == b.pageN a && true) (Chk b.fit ∧ Z (SV.b (b.mirN == b.mirN && 0 == b.pageN a && 0 == b.ramN))) (Z (SV.b (b.mirN == b.mirN && 0 == b.pageN a && 0 == 0)))))
                                  (br (b.mirN == b.mirN && 0 == 0 && true) (Chk b.fit ∧ br (b.mirN == b.mirN && 0 == 0 && true) (Chk b.fit ∧ Z (SV.b (b.mirN == b.mirN && 0 == 0 && b.ramN == b.ramN))) (Z (SV.b (b.mirN == b.mirN && 0 == 0 && b.ramN == 0))))
                                    (br (b.mirN == b.mirN && 0 == 0 && true) (Chk b.fit ∧ Z (SV.b (b.mirN == b.mirN && 0 == 0 && 0 == b.ramN))) (Z (SV.b (b.mirN == b.mirN && 0 == 0 && 0 == 0)))))))))
                (br (b.prgAt a != b.prgAt a || 0 != b.chrAt a || 0 != 0) (Z (SV.b false))
                  (Chk (okBW b (ior IntKind.u16 a 32768)) ∧
                    Chk (okBW b (ior IntKind.u16 a 32768)) ∧
                      br (b.prgAt (ior IntKind.u16 a 32768) != b.prgAt (ior IntKind.u16 a 32768)) (Z (SV.b false))
                        (Chk b.fit ∧
                          Chk b.fit ∧
                            br (b.mirN == b.mirN && true)
                              (Chk (okBW b a) ∧
                                br (b.mirN == b.mirN && true)
                                  (Chk (okBW b a) ∧
                                    br (b.mirN == b.mirN && b.pageN a == b.pageN a && true) (Chk b.fit ∧ br (b.mirN == b.mirN && b.pageN a == b.pageN a && true) (Chk b.fit ∧ Z (SV.b (b.mirN == b.mirN && b.pageN a == b.pageN a && b.ramN == b.ramN))) (Z (SV.b (b.mirN == b.mirN && b.pageN a == b.pageN a && b.ramN == 0))))
                                      (br (b.mirN == b.mirN && b.pageN a == b.pageN a && true) (Chk b.fit ∧ Z (SV.b (b.mirN == b.mirN && b.pageN a == b.pageN a && 0 == b.ramN))) (Z (SV.b (b.mirN == b.mirN && b.pageN a == b.pageN a && 0 == 0)))))
                                  (br (b.mirN == b.mirN && b.pageN a == 0 && true) (Chk b.fit ∧ br (b.mirN == b.mirN && b.pageN a == 0 && true) (Chk b.fit ∧ Z (SV.b (b.mirN == b.mirN && b.pageN a == 0 && b.ramN == b.ramN))) (Z (SV.b (b.mirN == b.mirN && b.pageN a == 0 && b.ramN == 0))))
                                    (br (b.mirN == b.mirN && b.pageN a == 0 && true) (Chk b.fit ∧ Z (SV.b (b.mirN == b.mirN && b.pageN a == 0 && 0 == b.ramN))) (Z (SV.b (b.mirN == b.mirN && b.pageN a == 0 && 0 == 0))))))
                              (br (b.mirN == b.mirN && true)
                                (Chk (okBW b a) ∧
                                  br (b.mirN == b.mirN && 0 == b.pageN a && true) (Chk b.fit ∧ br (b.mirN == b.mirN && 0 == b.pageN a && true) (Chk b.fit ∧ Z (SV.b (b.mirN == b.mirN && 0 == b.pageN a && b.ramN == b.ramN))) (Z (SV.b (b.mirN == b.mirN && 0 == b.pageN a && b.ramN == 0))))
                                    (br (b.mirN == b.mirN && 0 == b.pageN a && true) (Chk b.fit ∧ Z (SV.b (b.mirN == b.mirN && 0 == b.pageN a && 0 == b.ramN))) (Z (SV.b (b.mirN == b.mirN && 0 == b.pageN a && 0 == 0)))))
                                (br (b.mirN == b.mirN && 0 == 0 && true) (Chk b.fit ∧ br (b.mirN == b.mirN && 0 == 0 && true) (Chk b.fit ∧ Z (SV.b (b.mirN == b.mirN && 0 == 0 && b.ramN == b.ramN))) (Z (SV.b (b.mirN == b.mirN && 0 == 0 && b.ramN == 0))))
                                  (br (b.mirN == b.mirN && 0 == 0 && true) (Chk b.fit ∧ Z (SV.b (b.mirN == b.mirN && 0 == 0 && 0 == b.ramN))) (Z (SV.b (b.mirN == b.mirN && 0 == 0 && 0 == 0)))))))))))
          (br (!(b.prgAt a != b.prgAt a || 0 != 0) && true)
            (Chk (okBW b (a.tmod 8192)) ∧
              br (!(b.prgAt a != b.prgAt a || 0 != 0) && true)
                (Chk (okBW b (a.tmod 8192)) ∧
                  br (b.prgAt a != b.prgAt a || 0 != 0 || b.chrAt (a.tmod 8192) != b.chrAt (a.tmod 8192)) (Z (SV.b false))
                    (Chk (okBW b (ior IntKind.u16 a 32768)) ∧
                      Chk (okBW b (ior IntKind.u16 a 32768)) ∧
                        br (b.prgAt (ior IntKind.u16 a 32768) != b.prgAt (ior IntKind.u16 a 32768)) (Z (SV.b false))
                          (Chk b.fit ∧
                            Chk b.fit ∧
                              br (b.mirN == b.mirN && true)
                                (Chk (okBW b a) ∧
                                  br (b.mirN == b.mirN && true)
                                    (Chk (okBW b a) ∧
                                      br (b.mirN == b.mirN && b.pageN a == b.pageN a && true) (Chk b.fit ∧ br (b.mirN == b.mirN && b.pageN a == b.pageN a && true) (Chk b.fit ∧ Z (SV.b (b.mirN == b.mirN && b.pageN a == b.pageN a && b.ramN == b.ramN))) (Z (SV.b (b.mirN == b.mirN && b.pageN a == b.pageN a && b.ramN == 0))))
                                        (br (b.mirN == b.mirN && b.pageN a == b.pageN a && true) (Chk b.fit ∧ Z (SV.b (b.mirN == b.mirN && b.pageN a == b.pageN a && 0 == b.ramN))) (Z (SV.b (b.mirN == b.mirN && b.pageN a == b.pageN a && 0 == 0)))))
                                    (br (b.mirN == b.mirN && b.pageN a == 0 && true) (Chk b.fit ∧ br (b.mirN == b.mirN && b.pageN a == 0 && true) (Chk b.fit ∧ Z (SV.b (b.mirN == b.mirN && b.pageN a == 0 && b.ramN == b.ramN))) (Z (SV.b (b.mirN == b.mirN && b.pageN a == 0 && b.ramN == 0))))
                                      (br (b.mirN == b.mirN && b.pageN a == 0 && true) (Chk b.fit ∧ Z (SV.b (b.mirN == b.mirN && b.pageN a == 0 && 0 == b.ramN))) (Z (SV.b (b.mirN == b.mirN && b.pageN a == 0 && 0 == 0))))))
                                (br (b.mirN == b.mirN && true)
                                  (Chk (okBW b a) ∧
                                    br (b.mirN == b.mirN && 0 == b.pageN a && true) (Chk b.fit ∧ br (b.mirN == b.mirN && 0 == b.pageN a && true) (Chk b.fit ∧ Z (SV.b (b.mirN == b.mirN && 0 == b.pageN a && b.ramN == b.ramN))) (Z (SV.b (b.mirN == b.mirN && 0 == b.pageN a && b.ramN == 0))))
                                      (br (b.mirN == b.mirN && 0 == b.pageN a && true) (Chk b.fit ∧ Z (SV.b (b.mirN == b.mirN && 0 == b.pageN a && 0 == b.ramN))) (Z (SV.b (b.mirN == b.mirN && 0 == b.pageN a && 0 == 0)))))
                                  (br (b.mirN == b.mirN && 0 == 0 && true) (Chk b.fit ∧ br (b.mirN == b.mirN && 0 == 0 && true) (Chk b.fit ∧ Z (SV.b (b.mirN == b.mirN && 0 == 0 && b.ramN == b.ramN))) (Z (SV.b (b.mirN == b.mirN && 0 == 0 && b.ramN == 0))))
                                    (br (b.mirN == b.mirN && 0 == 0 && true) (Chk b.fit ∧ Z (SV.b (b.mirN == b.mirN && 0 == 0 && 0 == b.ramN))) (Z (SV.b (b.mirN == b.mirN && 0 == 0 && 0 == 0)))))))))
                (br (b.prgAt a != b.prgAt a || 0 != 0 || b.chrAt (a.tmod 8192) != 0) (Z (SV.b false))
                  (Chk (okBW b (ior IntKind.u16 a 32768)) ∧
                    Chk (okBW b (ior IntKind.u16 a 32768)) ∧
                      br (b.prgAt (ior IntKind.u16 a 32768) != b.prgAt (ior IntKind.u16 a 32768)) (Z (SV.b false))
                        (Chk b.fit ∧
                          Chk b.fit ∧
                            br (b.mirN == b.mirN && true)
                              (Chk (okBW b a) ∧
                                br (b.mirN == b.mirN && true)
                                  (Chk (okBW b a) ∧
                                    br (b.mirN == b.mirN && b.pageN a == b.pageN a && true) (Chk b.fit ∧ br (b.mirN == b.mirN && b.pageN a == b.pageN a && true) (Chk b.fit ∧ Z (SV.b (b.mirN == b.mirN && b.pageN a == b.pageN a && b.ramN == b.ramN))) (Z (SV.b (b.mirN == b.mirN && b.pageN a == b.pageN a && b.ramN == 0))))
                                      (br (b.mirN == b.mirN && b.pageN a == b.pageN a && true) (Chk b.fit ∧ Z (SV.b (b.mirN == b.mirN && b.pageN a == b.pageN a && 0 == b.ramN))) (Z (SV.b (b.mirN == b.mirN && b.pageN a == b.pageN a && 0 == 0)))))
                                  (br (b.mirN == b.mirN && b.pageN a == 0 && true) (Chk b.fit ∧ br (b.mirN == b.mirN && b.pageN a == 0 && true) (Chk b.fit ∧ Z (SV.b (b.mirN == b.mirN && b.pageN a == 0 && b.ramN == b.ramN))) (Z (SV.b (b.mirN == b.mirN && b.pageN a == 0 && b.ramN == 0))))
                                    (br (b.mirN == b.mirN && b.pageN a == 0 && true) (Chk b.fit ∧ Z (SV.b (b.mirN == b.mirN && b.pageN a == 0 && 0 == b.ramN))) (Z (SV.b (b.mirN == b.mirN && b.pageN a == 0 && 0 == 0))))))
                              (br (b.mirN == b.mirN && true)
                                (Chk (okBW b a) ∧
                                  br (b.mirN == b.mirN && 0 == b.pageN a && true) (Chk b.fit ∧ br (b.mirN == b.mirN && 0 == b.pageN a && true) (Chk b.fit ∧ Z (SV.b (b.mirN == b.mirN && 0 == b.pageN a && b.ramN == b.ramN))) (Z (SV.b (b.mirN == b.mirN && 0 == b.pageN a && b.ramN == 0))))
                                    (br (b.mirN == b.mirN && 0 == b.pageN a && true) (Chk b.fit ∧ Z (SV.b (b.mirN == b.mirN && 0 == b.pageN a && 0 == b.ramN))) (Z (SV.b (b.mirN == b.mirN && 0 == b.pageN a && 0 == 0)))))
                                (br (b.mirN == b.mirN && 0 == 0 && true) (Chk b.fit ∧ br (b.mirN == b.mirN && 0 == 0 && true) (Chk b.fit ∧ Z (SV.b (b.mirN == b.mirN && 0 == 0 && b.ramN == b.ramN))) (Z (SV.b (b.mirN == b.mirN && 0 == 0 && b.ramN == 0))))
                                  (br (b.mirN == b.mirN && 0 == 0 && true) (Chk b.fit ∧ Z (SV.b (b.mirN == b.mirN && 0 == 0 && 0 == b.ramN))) (Z (SV.b (b.mirN == b.mirN && 0 == 0 && 0 == 0))))))))))
            (br (!(b.prgAt a != b.prgAt a || 0 != 0) && true)
              (Chk (okBW b (a.tmod 8192)) ∧
                br (b.prgAt a != b.prgAt a || 0 != 0 || 0 != b.chrAt (a.tmod 8192)) (Z (SV.b false))
                  (Chk (okBW b (ior IntKind.u16 a 32768)) ∧
                    Chk (okBW b (ior IntKind.u16 a 32768)) ∧
                      br (b.prgAt (ior IntKind.u16 a 32768) != b.prgAt (ior IntKind.u16 a 32768)) (Z (SV.b false))
                        (Chk b.fit ∧
                          Chk b.fit ∧
                            br (b.mirN == b.mirN && true)
                              (Chk (okBW b a) ∧
                                br (b.mirN == b.mirN && true)
                                  (Chk (okBW b a) ∧
                                    br (b.mirN == b.mirN && b.pageN a == b.pageN a && true) (Chk b.fit ∧ br (b.mirN == b.mirN && b.pageN a == b.pageN a && true) (Chk b.fit ∧ Z (SV.b (b.mirN == b.mirN && b.pageN a == b.pageN a && b.ramN == b.ramN))) (Z (SV.b (b.mirN == b.mirN && b.pageN a == b.pageN a && b.ramN == 0))))
                                      (br (b.mirN == b.mirN && b.pageN a == b.pageN a && true) (Chk b.fit ∧ Z (SV.b (b.mirN == b.mirN && b.pageN a == b.pageN a && 0 == b.ramN))) (Z (SV.b (b.mirN == b.mirN && b.pageN a == b.pageN a && 0 == 0)))))
                                  (br (b.mirN == b.mirN && b.pageN a == 0 && true) (Chk b.fit ∧ br (b.mirN == b.mirN && b.pageN a == 0 && true) (Chk b.fit ∧ Z (SV.b (b.mirN == b.mirN && b.pageN a == 0 && b.ramN == b.ramN))) (Z (SV.b (b.mirN == b.mirN && b.pageN a == 0 && b.ramN == 0))))
                                    (br (b.mirN == b.mirN && b.pageN a == 0 && true) (Chk b.fit ∧ Z (SV.b (b.mirN == b.mirN && b.pageN a == 0 && 0 == b.ramN))) (Z (SV.b (b.mirN == b.mirN && b.pageN a == 0 && 0 == 0))))))
                              (br (b.mirN == b.mirN && true)
                                (Chk (okBW b a) ∧
                                  br (b.mirN == b.mirN && 0 == b.pageN a && true) (Chk b.fit ∧ br (b.mirN == b.mirN && 0 == b.pageN a && true) (Chk b.fit ∧ Z (SV.b (b.mirN == b.mirN && 0 == b.pageN a && b.ramN == b.ramN))) (Z (SV.b (b.mirN == b.mirN && 0 == b.pageN a && b.ramN == 0))))
                                    (br (b.mirN == b.mirN && 0 == b.pageN a && true) (Chk b.fit ∧ Z (SV.b (b.mirN == b.mirN && 0 == b.pageN a && 0 == b.ramN))) (Z (SV.b (b.mirN == b.mirN && 0 == b.pageN a && 0 == 0)))))
                                (br (b.mirN == b.mirN && 0 == 0 && true) (Chk b.fit ∧ br (b.mirN == b.mirN && 0 == 0 && true) (Chk b.fit ∧ Z (SV.b (b.mirN == b.mirN && 0 == 0 && b.ramN == b.ramN))) (Z (SV.b (b.mirN == b.mirN && 0 == 0 && b.ramN == 0))))
                                  (br (b.mirN == b.mirN && 0 == 0 && true) (Chk b.fit ∧ Z (SV.b (b.mirN == b.mirN && 0 == 0 && 0 == b.ramN))) (Z (SV.b (b.mirN == b.mirN && 0 == 0 && 0 == 0)))))))))
              (br (b.prgAt a != b.prgAt a || 0 != 0 || 0 != 0) (Z (SV.b false))
                (Chk (okBW b (ior IntKind.u16 a 32768)) ∧
                  Chk (okBW b (ior IntKind.u16 a 32768)) ∧
                    br (b.prgAt (ior IntKind.u16 a 32768) != b.prgAt (ior IntKind.u16 a 32768)) (Z (SV.b false))
                      (Chk b.fit ∧
                        Chk b.fit ∧
                          br (b.mirN == b.mirN && true)
                            (Chk (okBW b a) ∧
                              br (b.mirN == b.mirN && true)
                                (Chk (okBW b a) ∧
                                  br (b.mirN == b.mirN && b.pageN a == b.pageN a && true) (Chk b.fit ∧ br (b.mirN == b.mirN && b.pageN a == b.pageN a && true) (Chk b.fit ∧ Z (SV.b (b.mirN == b.mirN && b.pageN a == b.pageN a && b.ramN == b.ramN))) (Z (SV.b (b.mirN == b.mirN && b.pageN a == b.pageN a && b.ramN == 0))))
                                    (br (b.mirN == b.mirN && b.pageN a == b.pageN a && true) (Chk b.fit ∧ Z (SV.b (b.mirN == b.mirN && b.pageN a == b.pageN a && 0 == b.ramN))) (Z (SV.b (b.mirN == b.mirN && b.pageN a == b.pageN a && 0 == 0)))))
                                (br (b.mirN == b.mirN && b.pageN a == 0 && true) (Chk b.fit ∧ br (b.mirN == b.mirN && b.pageN a == 0 && true) (Chk b.fit ∧ Z (SV.b (b.mirN == b.mirN && b.pageN a == 0 && b.ramN == b.ramN))) (Z (SV.b (b.mirN == b.mirN && b.pageN a == 0 && b.ramN == 0))))
                                  (br (b.mirN == b.mirN && b.pageN a == 0 && true) (Chk b.fit ∧ Z (SV.b (b.mirN == b.mirN && b.pageN a == 0 && 0 == b.ramN))) (Z (SV.b (b.mirN == b.mirN && b.pageN a == 0 && 0 == 0))))))
                            (br (b.mirN == b.mirN && true)
                              (Chk (okBW b a) ∧
                                br (b.mirN == b.mirN && 0 == b.pageN a && true) (Chk b.fit ∧ br (b.mirN == b.mirN && 0 == b.pageN a && true) (Chk b.fit ∧ Z (SV.b (b.mirN == b.mirN && 0 == b.pageN a && b.ramN == b.ramN))) (Z (SV.b (b.mirN == b.mirN && 0 == b.pageN a && b.ramN == 0))))
                                  (br (b.mirN == b.mirN && 0 == b.pageN a && true) (Chk b.fit ∧ Z (SV.b (b.mirN == b.mirN && 0 == b.pageN a && 0 == b.ramN))) (Z (SV.b (b.mirN == b.mirN && 0 == b.pageN a && 0 == 0)))))
                              (br (b.mirN == b.mirN && 0 == 0 && true) (Chk b.fit ∧ br (b.mirN == b.mirN && 0 == 0 && true) (Chk b.fit ∧ Z (SV.b (b.mirN == b.mirN && 0 == 0 && b.ramN == b.ramN))) (Z (SV.b (b.mirN == b.mirN && 0 == 0 && b.ramN == 0))))
                                (br (b.mirN == b.mirN && 0 == 0 && true) (Chk b.fit ∧ Z (SV.b (b.mirN == b.mirN && 0 == 0 && 0 == b.ramN))) (Z (SV.b (b.mirN == b.mirN && 0 == 0 && 0 == 0))))))))))))) := by kernel_rfl

end Go.Sx

namespace Go.Sx
open Go.Proofs
set_option linter.unusedVariables false
set_option linter.unusedSimpArgs false
set_option maxRecDepth 100000
set_option maxHeartbeats 1000000
theorem u16_wrap (n : Int) : u16 (IntKind.u16.wrap n) := by
  have : IntKind.u16.wrap n = n % 65536 := by simp [IntKind.wrap, IntKind.signed, IntKind.bits]
  rw [this]; unfold u16; omega
theorem p29 (x : Brd × Int) (h : okBW x.1 x.2) : Chk (bodyK (EB hC LE) (callN (EB hC LE) 3) 29 Tryd.f29 (eBW x) [] (fun y _ => onB (y.cl 0) (y = .b true))) := by
  obtain ⟨b, a⟩ := x
  constructor
  show bodyK (EB hC LE) (callN (EB hC LE) 3) 29 Tryd.f29 [b.sv, .i .u16 a] [] (fun y _ => onB (y.cl 0) (y = .b true))
  rw [t29]
  have hf := h.fit
  have ha := h.n
  simp only at hf ha
  have o2 : okBW b (ior .u16 a 32768) := ⟨hf, u16_wrap _⟩
  unfold u16 at ha
  have o3 : okBW b (a.tmod 8192) := ⟨hf, by rw [Int.tmod_eq_emod_of_nonneg ha.1]; unfold u16; omega⟩
  simp only [bne_self_eq_false, beq_self_eq_true, Bool.not_false, Bool.and_true, Bool.or_self, br_t, br_f]
  exact ⟨⟨⟨hf, rfl⟩⟩, ⟨h⟩, ⟨h⟩, ⟨h⟩, ⟨h⟩, ⟨o3⟩, ⟨o3⟩, ⟨o2⟩, ⟨o2⟩, ⟨hf⟩, ⟨hf⟩, ⟨h⟩, ⟨h⟩, ⟨hf⟩, ⟨hf⟩, trivial⟩
def cSeen : Con := .pure (preD dBW fun x => okBW x.1 x.2) (onD dBW fun x => .b true)
theorem con29 : ConOK (EB hC LE) 29 cSeen := EBcon (enc := eBW) (p := fun x => okBW x.1 x.2) (F := fun x => .b true) hCE_ok (LE_ok _) 3 Tryd.func29 dBW_ok p29
def hD : List (Nat × Con) := (29, cSeen) :: hC
theorem hD_ok : GamOK (EB hD noLoop) := gam_ok rfl ⟨con29.of, con49.of, con32.of, con43.of, con61.of, con47.of, con57.of, con58.of, con33.of, con59.of, con60.of, con62.of, con63.of, con109.of, con125.of, con128.of, con30.of, con31.of, con108.of, con118.of, con127.of, con135.of, con27.of, con28.of, con133.of, con25.of, con26.of, con129.of, con56.of, con131.of, con24.of, con19.of, con20.of, con21.of, con41.of, con22.of, con23.of, con50.of, con51.of, con52.of, con53.of, trivial⟩

theorem t6 (b : Brd) (a n : Int) : bodyK (EB hD noLoop) (callN (EB hD noLoop) 1) 6 Tryd.f6 [b.sv, .i .u16 a, .i .i64 n] [] (fun y _ => isTrue y) = (
  Chk (okBW b a) ∧
  Chk (okBI b n) ∧
    Chk (okBI b n) ∧
      br (true && b.bankN n == b.bankN n && true) (Chk (okBI b n) ∧ br (true && b.bankN n == b.bankN n && true) (Chk (okBI b n) ∧ (true && b.bankN n == b.bankN n && b.chrN n == b.chrN n) = true) ((true && b.bankN n == b.bankN n && b.chrN n == 0) = true))
        (br (true && b.bankN n == b.bankN n && true) (Chk (okBI b n) ∧ (true && b.bankN n == b.bankN n && 0 == b.chrN n) = true) ((true && b.bankN n == b.bankN n && 0 == 0) = true))) := by kernel_rfl
theorem w6 (svs : List SV) (h : IsL Tryd.prog 3 [27, 41, 3] svs) : Chk (bodyK (EB hD noLoop) (callN (EB hD noLoop) 1) 6 Tryd.f6 svs [] (fun x _ => isTrue x)) := by
  obtain ⟨x, y, z, rfl, h1, h2, h3⟩ := isL3 h
  obtain ⟨b, rfl, hb⟩ := is_brd h1
  obtain ⟨a, rfl, ha⟩ := is_int und41 h2
  obtain ⟨n, rfl, hn⟩ := is_int und3 h3
  have hn := inK_i64 hn
  have ha := inK_u16 ha
  have o1 : okBW b a := ⟨hb, ha⟩
  have o2 : okBI b n := ⟨hb, hn⟩
  constructor
  rw [t6]
  simp only [bne_self_eq_false, beq_self_eq_true, decide_true, Bool.not_false, Bool.and_true, Bool.or_self, br_t, br_f]
  exact ⟨⟨o1⟩, ⟨o2⟩, ⟨o2⟩, ⟨o2⟩, ⟨o2⟩, trivial⟩

end Go.Sx
