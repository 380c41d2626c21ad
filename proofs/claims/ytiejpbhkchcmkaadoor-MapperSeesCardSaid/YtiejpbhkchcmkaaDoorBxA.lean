/-
  SxB0: the mapper's seat: its tables.
  SxB1: a board; contracts by what is decoded.
  SxB2: listed, sized: trees.
  SxB3: listed: contracts; sized: trees.
  SxB4: sized: contracts; Valid: trees.
  SxB5: Valid: contracts.
  SxB6: length, cartridge, New: trees.
-/
import Derived.Test.YtiejpbhkchcmkaaDoorChecked
import Derived.Test.YtiejpbhkchcmkaaDoorSxB
import Derived.KernelRfl
namespace Go.Sx
open Go.Proofs
set_option linter.unusedVariables false
set_option linter.unusedSimpArgs false

/-- A fork of a walk. -/
def br (c : Bool) (a b : Prop) : Prop := match c with
  | true => a
  | false => b
theorem br_in {c : Bool} {a b : Prop} (h1 : c = true → a) (h2 : c = false → b) : br c a b := by
  cases c
  · exact h2 rfl
  · exact h1 rfl
theorem br_t (a b : Prop) : br true a b = a := rfl
theorem br_f (a b : Prop) : br false a b = b := rfl
/-- What is asked of a call. -/
structure Chk (p : Prop) : Prop where
  ok : p

def zI : SV := .i .i64 0
def zU : SV := .i .u8 0
def zR : SV := .arr .u8 8 [0, 0, 0, 0, 0, 0, 0, 0]
def zBrd : SV := .agg (SVs.ofList [zI, zI, zU, .b false, zI, zI, .b false, zU, zU, zU, zU, zU, zI, zU, zU, zR, zU, zU, zU, zU, .b false, .b false, .b false, zI])
def zSh : SV := .agg (.cons zBrd .nil)
def zKi : SV := .agg (.cons zSh .nil)
def zCart : SV := .agg (SVs.ofList [zI, zI, zI, .b false, .b false, .b false, zI, zI, zI, zI, zI, zI, zI, zI, zI, .nils, .nils, .nils, .nils])
def zShape : SV := .agg (SVs.ofList [zI, zI, zI, zI, zI, zI, .b false, .b false])
def zStep : SV := .agg (SVs.ofList [zI, .i .u16 0, zU, zU, zI, zI])
def zRow : SV := .arr .i64 4 [0, 0, 0, 0]
def zTab : List (Nat × SV) :=
  [(3, zI), (4, .b false), (5, zU), (27, zBrd), (103, zSh), (106, zKi), (108, zKi), (110, zKi), (112, zKi), (114, zKi), (116, zKi), (104, .nilp), (107, .nilp), (109, .nilp), (111, .nilp), (113, .nilp), (115, .nilp),
   (62, .arr .i64 5 [0, 0, 0, 0, 0]), (66, .arr .i64 4 [0, 0, 0, 0]), (25, zR), (24, zU), (28, zI), (33, zCart), (23, zShape), (46, zStep), (41, .i .u16 0), (77, .nili), (118, .arr .u8 4 [0, 0, 0, 0]), (150, .arr .u8 4 [0, 0, 0, 0]), (67, .agg (SVs.ofList [zRow, zRow, zRow, zRow])), (68, .agg (SVs.ofList [zRow, zRow]))]

def mTab : List (Nat × List (String × Nat × Nat)) :=
  [(104, [("tandem/mapper.bank", 108, 0), ("tandem/mapper.chr", 109, 0), ("tandem/mapper.clock", 110, 1), ("tandem/mapper.mirror", 111, 0), ("tandem/mapper.ram", 112, 0), ("tandem/mapper.size", 113, 1), ("tandem/mapper.toIrq", 114, 1), ("tandem/mapper.turned", 115, 1), ("tandem/mapper.works", 116, 1), ("tandem/mapper.write", 117, 0)]),
   (107, [("tandem/mapper.bank", 118, 0), ("tandem/mapper.chr", 119, 1), ("tandem/mapper.clock", 110, 1), ("tandem/mapper.mirror", 120, 1), ("tandem/mapper.ram", 121, 1), ("tandem/mapper.size", 113, 1), ("tandem/mapper.toIrq", 114, 1), ("tandem/mapper.turned", 115, 1), ("tandem/mapper.works", 116, 1), ("tandem/mapper.write", 122, 0)]),
   (109, [("tandem/mapper.bank", 124, 1), ("tandem/mapper.chr", 125, 0), ("tandem/mapper.clock", 110, 1), ("tandem/mapper.mirror", 120, 1), ("tandem/mapper.ram", 121, 1), ("tandem/mapper.size", 113, 1), ("tandem/mapper.toIrq", 114, 1), ("tandem/mapper.turned", 115, 1), ("tandem/mapper.works", 116, 1), ("tandem/mapper.write", 126, 0)]),
   (111, [("tandem/mapper.bank", 127, 0), ("tandem/mapper.chr", 128, 0), ("tandem/mapper.clock", 129, 0), ("tandem/mapper.mirror", 130, 0), ("tandem/mapper.ram", 132, 0), ("tandem/mapper.size", 113, 1), ("tandem/mapper.toIrq", 133, 0), ("tandem/mapper.turned", 115, 1), ("tandem/mapper.works", 116, 1), ("tandem/mapper.write", 134, 0)]),
   (113, [("tandem/mapper.bank", 135, 0), ("tandem/mapper.chr", 119, 1), ("tandem/mapper.clock", 110, 1), ("tandem/mapper.mirror", 136, 0), ("tandem/mapper.ram", 121, 1), ("tandem/mapper.size", 113, 1), ("tandem/mapper.toIrq", 114, 1), ("tandem/mapper.turned", 115, 1), ("tandem/mapper.works", 116, 1), ("tandem/mapper.write", 137, 0)]),
   (115, [("tandem/mapper.bank", 124, 1), ("tandem/mapper.chr", 119, 1), ("tandem/mapper.clock", 110, 1), ("tandem/mapper.mirror", 120, 1), ("tandem/mapper.ram", 121, 1), ("tandem/mapper.size", 113, 1), ("tandem/mapper.toIrq", 114, 1), ("tandem/mapper.turned", 115, 1), ("tandem/mapper.works", 116, 1), ("tandem/mapper.write", 138, 1)])]

def lookS : List (String × Nat × Nat) → String → Option (Nat × Nat)
  | [], _ => none
  | (m, x) :: l, n => if m = n then some x else lookS l n
theorem lookS_mem : ∀ {l : List (String × Nat × Nat)} {n : String} {x : Nat × Nat}, lookS l n = some x → (n, x) ∈ l
  | [], n, x, h => by simp [lookS] at h
  | (m, y) :: l, n, x, h => by
    simp only [lookS] at h
    split at h
    · rename_i e; simp at h; subst e; subst h; simp
    · exact List.mem_cons_of_mem _ (lookS_mem h)

def subsT : List Int := [1, 33, 7, 7, 17, 0, 0, 7]
noncomputable def EB (gam : List (Nat × Con)) (loop : List (Nat × Nat × LCon)) : Env :=
  { P := Tryd.prog, zero := lookN zTab, glob := fun g => match g with
      | 0 => some (.arr .u8 8 subsT)
      | _ => none
    meth := fun t n => (lookN mTab t).bind fun l => lookS l n, gam := lookN gam, loop := lookL2 loop
    det := match loop with
      | [] => true
      | _ => false }

theorem zTab_ok : allN' (fun T z => ((Tryd.prog.info? T).bind (·.zero)) = some z.toV ∧ z.isFlat = true) zTab := by
  unfold zTab
  repeat' (first | exact trivial | refine ⟨⟨by kernel_rfl, by kernel_rfl⟩, ?_⟩)

def methOK (t : Nat) (l : List (String × Nat × Nat)) : Prop := ∀ x ∈ l, ∀ (a : Addr) (w : World), (method (Tryd.prog.types.size + Made.depth) t (.pointer (some a)) x.1).run Tryd.prog w = .ok (x.2.1, .pointer (some a)) w
theorem meth1 : allN' methOK mTab := by
  unfold mTab
  refine ⟨?_, ?_, ?_, ?_, ?_, ?_, trivial⟩ <;>
  · intro x hx a w
    simp only [List.mem_cons, List.not_mem_nil, or_false] at hx
    rcases hx with rfl | rfl | rfl | rfl | rfl | rfl | rfl | rfl | rfl | rfl <;> kernel_rfl

theorem EB_ok (gam : List (Nat × Con)) (loop : List (Nat × Nat × LCon)) : EnvOK (EB gam loop) :=
  { det := fun h f i => by
      cases loop with
      | nil => rfl
      | cons a l => simp [EB] at h
    mixed := by kernel_rfl
    zero := zeros_ok zTab_ok
    meth := fun t name g d h a w => by
      change ((lookN mTab t).bind fun l => lookS l name) = some (g, d) at h
      cases hl : lookN mTab t with
      | none => rw [hl] at h; simp at h
      | some l =>
        rw [hl] at h
        exact lookN_all meth1 hl (name, (g, d)) (lookS_mem h) a w }

end Go.Sx

namespace Go.Sx
open Go.Proofs
set_option linter.unusedVariables false
set_option linter.unusedSimpArgs false

structure Brd where
  kind : Int
  sub : Int
  hard : Int
  work : Bool
  prg : Int
  chr : Int
  cram : Bool
  shift : Int
  ctrl : Int
  chrA : Int
  chrB : Int
  prgR : Int
  last : Int
  latch : Int
  sel : Int
  rs : List Int
  turn : Int
  guard : Int
  iLatch : Int
  iCount : Int
  iLoad : Bool
  iOn : Bool
  irq : Bool
  epoch : Int

def Brd.sv (b : Brd) : SV :=
  .agg (.cons (.i .i64 b.kind) (.cons (.i .i64 b.sub) (.cons (.i .u8 b.hard) (.cons (.b b.work) (.cons (.i .i64 b.prg) (.cons (.i .i64 b.chr) (.cons (.b b.cram) (.cons (.i .u8 b.shift) (.cons (.i .u8 b.ctrl)
    (.cons (.i .u8 b.chrA) (.cons (.i .u8 b.chrB) (.cons (.i .u8 b.prgR) (.cons (.i .i64 b.last) (.cons (.i .u8 b.latch) (.cons (.i .u8 b.sel) (.cons (.arr .u8 8 b.rs) (.cons (.i .u8 b.turn) (.cons (.i .u8 b.guard)
    (.cons (.i .u8 b.iLatch) (.cons (.i .u8 b.iCount) (.cons (.b b.iLoad) (.cons (.b b.iOn) (.cons (.b b.irq) (.cons (.i .i64 b.epoch) .nil))))))))))))))))))))))))

def brdOf : SV → Option Brd
  | .agg (.cons (.i .i64 kind) (.cons (.i .i64 sub) (.cons (.i .u8 hard) (.cons (.b work) (.cons (.i .i64 prg) (.cons (.i .i64 chr) (.cons (.b cram) (.cons (.i .u8 shift) (.cons (.i .u8 ctrl)
    (.cons (.i .u8 chrA) (.cons (.i .u8 chrB) (.cons (.i .u8 prgR) (.cons (.i .i64 last) (.cons (.i .u8 latch) (.cons (.i .u8 sel) (.cons (.arr .u8 8 rs) (.cons (.i .u8 turn) (.cons (.i .u8 guard)
    (.cons (.i .u8 iLatch) (.cons (.i .u8 iCount) (.cons (.b iLoad) (.cons (.b iOn) (.cons (.b irq) (.cons (.i .i64 epoch) .nil)))))))))))))))))))))))) =>
    some ⟨kind, sub, hard, work, prg, chr, cram, shift, ctrl, chrA, chrB, prgR, last, latch, sel, rs, turn, guard, iLatch, iCount, iLoad, iOn, irq, epoch⟩
  | _ => none

theorem brdOf_some {x : SV} {b : Brd} (h : brdOf x = some b) : x = b.sv := by
  unfold brdOf at h
  split at h
  · simp at h; subst h; rfl
  · simp at h

/-! ### Contracts -/
def onD {α : Type} (dec : List SV → Option α) (F : α → SV) (l : List SV) : Option SV := match dec l with
  | some a => some (F a)
  | none => none
def preD {α : Type} (dec : List SV → Option α) (p : α → Prop) (l : List SV) : Prop := match dec l with
  | some a => Chk (p a)
  | none => False
def pre0 (_ : List SV) : Prop := True

theorem EBcon {gam : List (Nat × Con)} {loop : List (Nat × Nat × LCon)} (hg : GamOK (EB gam loop)) (hlo : LoopsOK (EB gam loop)) (n : Nat) {f : FuncId} {fn : Func} (hfn : Tryd.prog.funcs[f]? = some fn) {α : Type} {dec : List SV → Option α}
    {enc : α → List SV} (hd : ∀ l a, dec l = some a → l = enc a) {p : α → Prop} {F : α → SV} (h : ∀ a, p a → Chk (bodyK (EB gam loop) (callN (EB gam loop) n) f fn (enc a) [] (fun x _ => onB (x.cl 0) (x = F a)))) :
    ConOK (EB gam loop) f (.pure (preD dec p) (onD dec F)) := by
  refine con_pure (EB_ok gam loop) hg hlo n hfn fun args v hv hp => ?_
  unfold onD at hv
  unfold preD at hp
  cases hl : dec args with
  | none => rw [hl] at hv; simp at hv
  | some a =>
    rw [hl] at hv hp
    simp at hv; subst hv
    rw [hd _ _ hl]
    exact (h a hp.ok).ok
theorem EBcon0 {gam : List (Nat × Con)} {loop : List (Nat × Nat × LCon)} (hg : GamOK (EB gam loop)) (hlo : LoopsOK (EB gam loop)) (n : Nat) {f : FuncId} {fn : Func} (hfn : Tryd.prog.funcs[f]? = some fn) {α : Type} {dec : List SV → Option α}
    {enc : α → List SV} (hd : ∀ l a, dec l = some a → l = enc a) {F : α → SV} (h : ∀ a, Chk (bodyK (EB gam loop) (callN (EB gam loop) n) f fn (enc a) [] (fun x _ => onB (x.cl 0) (x = F a)))) :
    ConOK (EB gam loop) f (.pure pre0 (onD dec F)) := by
  refine con_pure (EB_ok gam loop) hg hlo n hfn fun args v hv hp => ?_
  unfold onD at hv
  cases hl : dec args with
  | none => rw [hl] at hv; simp at hv
  | some a =>
    rw [hl] at hv
    simp at hv; subst hv
    rw [hd _ _ hl]
    exact (h a).ok

theorem EBconQ {gam : List (Nat × Con)} {loop : List (Nat × Nat × LCon)} (hg : GamOK (EB gam loop)) (hlo : LoopsOK (EB gam loop)) (n : Nat) {f : FuncId} {fn : Func} (hfn : Tryd.prog.funcs[f]? = some fn) {α : Type} {dec : List SV → Option α}
    {enc : α → List SV} (hd : ∀ l a, dec l = some a → l = enc a) {p : α → Prop} {F : α → SV} {Q : α → SV → Prop} (hQ : ∀ a y, Q a y → y = F a)
    (h : ∀ a, p a → Chk (bodyK (EB gam loop) (callN (EB gam loop) n) f fn (enc a) [] (fun x _ => onB (x.cl 0) (Q a x)))) :
    ConOK (EB gam loop) f (.pure (preD dec p) (onD dec F)) := by
  refine con_pureQ (EB_ok gam loop) hg hlo n hfn (Q := fun args y => match dec args with
    | some a => Q a y
    | none => False) (fun args r r' h1 h2 => ?_) fun args v hv hp => ?_
  · unfold onD at h1
    cases hl : dec args with
    | none => rw [hl] at h1; simp at h1
    | some a =>
      rw [hl] at h1; simp at h1
      simp only [hl] at h2
      rw [hQ _ _ h2, h1]
  · unfold onD at hv
    unfold preD at hp
    cases hl : dec args with
    | none => rw [hl] at hv; simp at hv
    | some a =>
      rw [hl] at hv hp
      simp at hv; subst hv
      have e := hd _ _ hl
      simp only []
      rw [e]
      exact (h a hp.ok).ok

def noLoop : List (Nat × Nat × LCon) := []
theorem noLoops (gam : List (Nat × Con)) : LoopsOK (EB gam noLoop) := loops_ok rfl trivial
theorem ConOK.of {gam gam' : List (Nat × Con)} {loop loop' : List (Nat × Nat × LCon)} {f : FuncId} {c : Con} (h : ConOK (EB gam loop) f c) : ConOK (EB gam' loop') f c := ConOK.env rfl rfl h

/-! ### What is decoded -/
def dB : List SV → Option Brd
  | [x] => brdOf x
  | _ => none
def eB (b : Brd) : List SV := [b.sv]
theorem dB_ok (l : List SV) (b : Brd) (h : dB l = some b) : l = eB b := by
  unfold dB at h; split at h
  · rw [brdOf_some h]; rfl
  · simp at h
def dII : List SV → Option (Int × Int)
  | [.i .i64 a, .i .i64 b] => some (a, b)
  | _ => none
def eII (x : Int × Int) : List SV := [.i .i64 x.1, .i .i64 x.2]
theorem dII_ok (l : List SV) (x : Int × Int) (h : dII l = some x) : l = eII x := by
  unfold dII at h; split at h
  · simp at h; subst h; rfl
  · simp at h
def dBI : List SV → Option (Brd × Int)
  | [x, .i .i64 n] => match brdOf x with
    | some b => some (b, n)
    | none => none
  | _ => none
def eBI (x : Brd × Int) : List SV := [x.1.sv, .i .i64 x.2]
theorem dBI_ok (l : List SV) (x : Brd × Int) (h : dBI l = some x) : l = eBI x := by
  unfold dBI at h; split at h
  · split at h
    · rename_i hb; simp at h; subst h; rw [brdOf_some hb]; rfl
    · simp at h
  · simp at h
def dBA : List SV → Option (Brd × Int)
  | [x, .i .u16 n] => match brdOf x with
    | some b => some (b, n)
    | none => none
  | _ => none
def eBA (x : Brd × Int) : List SV := [x.1.sv, .i .u16 x.2]
theorem dBA_ok (l : List SV) (x : Brd × Int) (h : dBA l = some x) : l = eBA x := by
  unfold dBA at h; split at h
  · split at h
    · rename_i hb; simp at h; subst h; rw [brdOf_some hb]; rfl
    · simp at h
  · simp at h
end Go.Sx

namespace Go.Sx
open Go.Proofs
set_option linter.unusedVariables false
set_option linter.unusedSimpArgs false
def gE : List (Nat × Con) := []
/-- Which boards there are. -/
def listB (k s : Int) : Bool :=
  (k == 0 && s == 0) || (k == 1 && (s == 0 || s == 5)) || ((k == 2 || k == 3 || k == 7) && (decide (0 ≤ s) && decide (s ≤ 2))) || (k == 4 && (s == 0 || s == 4))
def cList : Con := .pure pre0 (onD dII fun x => .b (listB x.1 x.2))

theorem t50 (k s : Int) : bodyK (EB gE noLoop) (callN (EB gE noLoop) 1) 50 Tryd.f50 [.i .i64 k, .i .i64 s] [] (fun x _ => onB (x.cl 0) (x = .b (listB k s))) = (
  br (decide (0 ≤ k) && decide (k < 8) && decide (0 ≤ s) && decide (s < 8) && true)
  (br (inB k 8)
    (br (decide (0 ≤ k) && decide (k < 8) && decide (0 ≤ s) && decide (s < 8) && true) (br (!decide (s < 0)) (SV.b (decide (0 ≤ k) && decide (k < 8) && decide (0 ≤ s) && decide (s < 8) && iand IntKind.u8 (ishr IntKind.u8 (subsT.getD k.toNat 0) s) 1 == 1) = SV.b (listB k s)) False)
      (SV.b (decide (0 ≤ k) && decide (k < 8) && decide (0 ≤ s) && decide (s < 8) && iand IntKind.u8 0 1 == 1) = SV.b (listB k s)))
    False)
  (br (decide (0 ≤ k) && decide (k < 8) && decide (0 ≤ s) && decide (s < 8) && true) False
    (br (decide (0 ≤ k) && decide (k < 8) && decide (0 ≤ s) && decide (s < 8) && true) (br (!decide (s < 0)) (SV.b (decide (0 ≤ k) && decide (k < 8) && decide (0 ≤ s) && decide (s < 8) && iand IntKind.u8 (ishr IntKind.u8 0 s) 1 == 1) = SV.b (listB k s)) False) (SV.b (decide (0 ≤ k) && decide (k < 8) && decide (0 ≤ s) && decide (s < 8) && iand IntKind.u8 0 1 == 1) = SV.b (listB k s))))) := by kernel_rfl
theorem t51 (k s : Int) : bodyK (EB gE noLoop) (callN (EB gE noLoop) 1) 51 Tryd.f51 [.i .i64 k, .i .i64 s] [] (fun x _ => onB (x.cl 0) (x = .b (listB k s))) = (
  br (k == 0) (SV.b (s == 0) = SV.b (listB k s))
  (br (k == 1) (SV.b (s == 0 || s == 5) = SV.b (listB k s))
    (br (k == 2) (br (k == 2) (SV.b (decide (0 ≤ s) && decide (s ≤ 2)) = SV.b (listB k s)) (br (k == 4) (SV.b (s == 0 || s == 4) = SV.b (listB k s)) (SV.b false = SV.b (listB k s))))
      (br (k == 3) (br (k == 3) (SV.b (decide (0 ≤ s) && decide (s ≤ 2)) = SV.b (listB k s)) (br (k == 4) (SV.b (s == 0 || s == 4) = SV.b (listB k s)) (SV.b false = SV.b (listB k s)))) (br (k == 7) (SV.b (decide (0 ≤ s) && decide (s ≤ 2)) = SV.b (listB k s)) (br (k == 4) (SV.b (s == 0 || s == 4) = SV.b (listB k s)) (SV.b false = SV.b (listB k s)))))))) := by kernel_rfl

end Go.Sx

namespace Go.Sx
open Go.Proofs
set_option linter.unusedVariables false
set_option linter.unusedSimpArgs false

theorem listB_range {k s : Int} (h : listB k s = true) : 0 ≤ k ∧ k < 8 ∧ 0 ≤ s ∧ s < 8 := by
  simp [listB] at h; omega
theorem listB_table : ∀ k : Fin 8, ∀ s : Fin 8, (iand .u8 (ishr .u8 (subsT.getD k.val 0) s.val) 1 == 1) = listB k.val s.val := by decide +kernel
theorem listB_at {k s : Int} (h1 : 0 ≤ k) (h2 : k < 8) (h3 : 0 ≤ s) (h4 : s < 8) : (iand .u8 (ishr .u8 (subsT.getD k.toNat 0) s) 1 == 1) = listB k s := by
  have := listB_table ⟨k.toNat, by omega⟩ ⟨s.toNat, by omega⟩
  simp only [Int.toNat_of_nonneg h1, Int.toNat_of_nonneg h3] at this
  exact this
theorem p50 (k s : Int) : Chk (bodyK (EB gE noLoop) (callN (EB gE noLoop) 1) 50 Tryd.f50 [.i .i64 k, .i .i64 s] [] (fun x _ => onB (x.cl 0) (x = .b (listB k s)))) := by
  constructor
  rw [t50]
  cases c : (decide (0 ≤ k) && decide (k < 8) && decide (0 ≤ s) && decide (s < 8)) with
  | true =>
    have c' := c
    simp at c'
    obtain ⟨⟨⟨h1, h2⟩, h3⟩, h4⟩ := c'
    have e1 : inB k 8 = true := by unfold inB; simp; omega
    have e2 : (!decide (s < 0)) = true := by simp; omega
    rw [e1, e2, listB_at h1 h2 h3 h4]
    rfl
  | false =>
    have : listB k s = false := by
      cases hl : listB k s with
      | false => rfl
      | true =>
        have := listB_range hl
        simp at c; omega
    rw [this]
    rfl
theorem p51 (k s : Int) : Chk (bodyK (EB gE noLoop) (callN (EB gE noLoop) 1) 51 Tryd.f51 [.i .i64 k, .i .i64 s] [] (fun x _ => onB (x.cl 0) (x = .b (listB k s)))) := by
  constructor
  rw [t51]
  unfold listB
  by_cases h0 : k = 0
  · subst h0; simp [br]
  by_cases h1 : k = 1
  · subst h1; simp [br]
  by_cases h2 : k = 2
  · subst h2; simp [br]
  by_cases h3 : k = 3
  · subst h3; simp [br]
  by_cases h4 : k = 4
  · subst h4; simp [br]
  by_cases h7 : k = 7
  · subst h7; simp [br]
  have e : ∀ n : Int, k ≠ n → (k == n) = false := fun n h => by simp [h]
  rw [e 0 h0, e 1 h1, e 2 h2, e 3 h3, e 4 h4, e 7 h7]
  rfl
theorem gE_ok : GamOK (EB gE noLoop) := gam_ok rfl trivial
theorem con50 : ConOK (EB gE noLoop) 50 cList := EBcon0 (enc := eII) gE_ok (noLoops _) 1 Tryd.func50 dII_ok fun x => p50 x.1 x.2
theorem con51 : ConOK (EB gE noLoop) 51 cList := EBcon0 (enc := eII) gE_ok (noLoops _) 1 Tryd.func51 dII_ok fun x => p51 x.1 x.2
def gL : List (Nat × Con) := [(50, cList), (51, cList)]
theorem gL_ok : GamOK (EB gL noLoop) := gam_ok rfl ⟨con50.of, con51.of, trivial⟩
/-- The sizes and what all boards share. -/
def Brd.sized (b : Brd) : Bool :=
  (b.hard == 0 || b.hard == 1 || b.hard == 4) && decide (2 ≤ b.prg) && decide (b.prg ≤ 128) && (b.prg.tmod 2 == 0) && decide (8 ≤ b.chr) && decide (b.chr ≤ 512) && (b.chr.tmod 8 == 0) && (!b.cram || b.chr == 8) && decide (0 ≤ b.epoch) && decide (b.epoch ≤ 4611686018427387904)

theorem t52 (b : Brd) : bodyK (EB gL noLoop) (callN (EB gL noLoop) 1) 52 Tryd.f52 [b.sv] [] (fun x _ => onB (x.cl 0) (x = .b b.sized)) = (
  br (b.hard != 0 && b.hard != 1 && b.hard != 4) (SV.b false = SV.b b.sized) (br (decide (b.prg < 2) || decide (128 < b.prg) || b.prg.tmod 2 != 0 || decide (b.chr < 8) || decide (512 < b.chr) || b.chr.tmod 8 != 0) (SV.b false = SV.b b.sized) (SV.b ((!b.cram || b.chr == 8) && decide (0 ≤ b.epoch) && decide (b.epoch ≤ 4611686018427387904)) = SV.b b.sized))) := by kernel_rfl
theorem t53 (b : Brd) : bodyK (EB gL noLoop) (callN (EB gL noLoop) 1) 53 Tryd.f53 [b.sv] [] (fun x _ => onB (x.cl 0) (x = .b (listB b.kind b.sub && b.sized))) = (
  True ∧
  br (!listB b.kind b.sub) (SV.b false = SV.b (listB b.kind b.sub && b.sized))
    (br (b.hard != 0 && b.hard != 1 && b.hard != 4) (SV.b false = SV.b (listB b.kind b.sub && b.sized))
      (br (decide (b.prg < 2) || decide (128 < b.prg) || b.prg.tmod 2 != 0 || decide (b.chr < 8) || decide (512 < b.chr) || b.chr.tmod 8 != 0) (SV.b false = SV.b (listB b.kind b.sub && b.sized)) (br (b.cram && b.chr != 8) (SV.b false = SV.b (listB b.kind b.sub && b.sized)) (SV.b (decide (0 ≤ b.epoch) && decide (b.epoch ≤ 4611686018427387904)) = SV.b (listB b.kind b.sub && b.sized)))))) := by kernel_rfl

end Go.Sx

namespace Go.Sx
open Go.Proofs
set_option linter.unusedVariables false
set_option linter.unusedSimpArgs false
set_option maxRecDepth 100000

theorem bool_eq_iff {a b : Bool} (h : a = true ↔ b = true) : a = b := by cases a <;> cases b <;> simp_all
theorem sized_iff (b : Brd) : b.sized = true ↔ (b.hard = 0 ∨ b.hard = 1 ∨ b.hard = 4) ∧ 2 ≤ b.prg ∧ b.prg ≤ 128 ∧ b.prg.tmod 2 = 0 ∧ 8 ≤ b.chr ∧ b.chr ≤ 512 ∧ b.chr.tmod 8 = 0 ∧ (b.cram = true → b.chr = 8) ∧ 0 ≤ b.epoch ∧ b.epoch ≤ 4611686018427387904 := by
  unfold Brd.sized
  cases b.cram <;> simp [or_assoc, and_assoc]
theorem p52 (b : Brd) : Chk (bodyK (EB gL noLoop) (callN (EB gL noLoop) 1) 52 Tryd.f52 [b.sv] [] (fun x _ => onB (x.cl 0) (x = .b b.sized))) := by
  constructor
  rw [t52]
  refine br_in (fun h => ?_) (fun h => br_in (fun h2 => ?_) (fun h2 => ?_)) <;> congr 1 <;> apply bool_eq_iff <;> rw [sized_iff]
  · simp at h; simp; omega
  · simp at h2; simp; omega
  · simp at h h2
    cases b.cram <;> simp <;> omega
theorem p53 (b : Brd) : Chk (bodyK (EB gL noLoop) (callN (EB gL noLoop) 1) 53 Tryd.f53 [b.sv] [] (fun x _ => onB (x.cl 0) (x = .b (listB b.kind b.sub && b.sized)))) := by
  constructor
  rw [t53]
  refine ⟨trivial, br_in (fun h0 => ?_) (fun h0 => ?_)⟩
  · simp at h0; rw [h0]; rfl
  · simp at h0
    rw [h0, Bool.true_and]
    refine br_in (fun h => ?_) (fun h => br_in (fun h2 => ?_) (fun h2 => br_in (fun h3 => ?_) (fun h3 => ?_))) <;> congr 1 <;> apply bool_eq_iff <;> rw [sized_iff]
    · simp at h; simp; omega
    · simp at h2; simp; omega
    · simp at h3; simp [h3]
    · simp at h h2 h3
      cases hc : b.cram
      · simp; omega
      · have := h3 hc; simp; omega
def cSize : Con := .pure pre0 (onD dB fun b => .b b.sized)
def cLS : Con := .pure pre0 (onD dB fun b => .b (listB b.kind b.sub && b.sized))
theorem con52 : ConOK (EB gL noLoop) 52 cSize := EBcon0 (enc := eB) gL_ok (noLoops _) 1 Tryd.func52 dB_ok p52
theorem con53 : ConOK (EB gL noLoop) 53 cLS := EBcon0 (enc := eB) gL_ok (noLoops _) 1 Tryd.func53 dB_ok p53
def gS : List (Nat × Con) := [(50, cList), (51, cList), (52, cSize), (53, cLS)]
theorem gS_ok : GamOK (EB gS noLoop) := gam_ok rfl ⟨con50.of, con51.of, con52.of, con53.of, trivial⟩
def Brd.m1 (b : Brd) : Bool := b.shift == 0 && b.ctrl == 0 && b.chrA == 0 && b.chrB == 0 && b.prgR == 0 && b.last == 0
def Brd.m3 (b : Brd) : Bool := b.sel == 0 && decide (b.rs = [0, 0, 0, 0, 0, 0, 0, 0]) && b.turn == 0 && b.guard == 0 && b.iLatch == 0 && b.iCount == 0 && !b.iLoad && !b.iOn && !b.irq
def Brd.regs (b : Brd) : Bool :=
  if b.kind = 1 then decide (1 ≤ b.shift) && decide (b.shift ≤ 31) && decide (b.ctrl ≤ 31) && decide (b.chrA ≤ 31) && decide (b.chrB ≤ 31) && decide (b.prgR ≤ 31) && (decide (0 ≤ b.last) || b.last == -2) && b.latch == 0 && b.m3
  else if b.kind = 2 ∨ b.kind = 3 ∨ b.kind = 7 then b.m1 && b.m3
  else if b.kind = 4 then iand .u8 b.sel 56 == 0 && decide (b.turn ≤ 1) && iand .u8 b.guard 63 == 0 && !(b.iLoad && b.iCount != 0) && !(b.irq && !b.iOn) && b.m1 && b.latch == 0
  else b.m1 && b.latch == 0 && b.m3
def Brd.valid (b : Brd) : Bool := listB b.kind b.sub && b.sized && b.regs

theorem t22 (b : Brd) : bodyK (EB gS noLoop) (callN (EB gS noLoop) 1) 22 Tryd.f22 [b.sv] [] (fun x _ => onB (x.cl 0) (x = .b b.valid)) = (
  True ∧
  br (!!listB b.kind b.sub && true)
    (True ∧
      br (!listB b.kind b.sub || !b.sized) (SV.b false = SV.b b.valid)
        (br (b.kind == 1)
          (br (!b.shift == 0 && true)
            (br
              (b.shift == 0 ||
                  decide
                    (31 <
                      bif decide ((bif decide ((bif decide ((bif decide (b.shift < b.ctrl) then b.ctrl else b.shift) < b.chrA) then b.chrA else bif decide (b.shift < b.ctrl) then b.ctrl else b.shift) < b.chrB) then b.chrB else bif decide ((bif decide (b.shift < b.ctrl) then b.ctrl else b.shift) < b.chrA) then b.chrA else bif decide (b.shift < b.ctrl) then b.ctrl else b.shift) < b.prgR) then b.prgR
                      else bif decide ((bif decide ((bif decide (b.shift < b.ctrl) then b.ctrl else b.shift) < b.chrA) then b.chrA else bif decide (b.shift < b.ctrl) then b.ctrl else b.shift) < b.chrB) then b.chrB else bif decide ((bif decide (b.shift < b.ctrl) then b.ctrl else b.shift) < b.chrA) then b.chrA else bif decide (b.shift < b.ctrl) then b.ctrl else b.shift) ||
                decide (b.last < 0) && b.last != -2)
              (SV.b false = SV.b b.valid)
              (SV.b
                  (b.kind == b.kind &&
                    (b.sub == b.sub &&
                      (b.hard == b.hard &&
                        (b.work == b.work &&
                          (b.prg == b.prg &&
                            (b.chr == b.chr &&
                              (b.cram == b.cram &&
                                (b.shift == b.shift &&
                                  (b.ctrl == b.ctrl && (b.chrA == b.chrA && (b.chrB == b.chrB && (b.prgR == b.prgR && (b.last == b.last && (b.latch == 0 && (b.sel == 0 && (decide (b.rs = [0, 0, 0, 0, 0, 0, 0, 0]) && (b.turn == 0 && (b.guard == 0 && (b.iLatch == 0 && (b.iCount == 0 && (b.iLoad == false && (b.iOn == false && (b.irq == false && (b.epoch == b.epoch && true)))))))))))))))))))))))) =
                SV.b b.valid))
            (br (b.shift == 0 || decide (31 < 0) || decide (b.last < 0) && b.last != -2) (SV.b false = SV.b b.valid)
              (SV.b
                  (b.kind == b.kind &&
                    (b.sub == b.sub &&
                      (b.hard == b.hard &&
                        (b.work == b.work &&
                          (b.prg == b.prg &&
                            (b.chr == b.chr &&
                              (b.cram == b.cram &&
                                (b.shift == b.shift &&
                                  (b.ctrl == b.ctrl && (b.chrA == b.chrA && (b.chrB == b.chrB && (b.prgR == b.prgR && (b.last == b.last && (b.latch == 0 && (b.sel == 0 && (decide (b.rs = [0, 0, 0, 0, 0, 0, 0, 0]) && (b.turn == 0 && (b.guard == 0 && (b.iLatch == 0 && (b.iCount == 0 && (b.iLoad == false && (b.iOn == false && (b.irq == false && (b.epoch == b.epoch && true)))))))))))))))))))))))) =
                SV.b b.valid)))
          (br (b.kind == 2)
            (br (b.kind == 2)
              (SV.b
                  (b.kind == b.kind &&
                    (b.sub == b.sub &&
                      (b.hard == b.hard &&
                        (b.work == b.work &&
                          (b.prg == b.prg &&
                            (b.chr == b.chr &&
                              (b.cram == b.cram &&
                                (b.shift == 0 && (b.ctrl == 0 && (b.chrA == 0 && (b.chrB == 0 && (b.prgR == 0 && (b.last == 0 && (b.latch == b.latch && (b.sel == 0 && (decide (b.rs = [0, 0, 0, 0, 0, 0, 0, 0]) && (b.turn == 0 && (b.guard == 0 && (b.iLatch == 0 && (b.iCount == 0 && (b.iLoad == false && (b.iOn == false && (b.irq == false && (b.epoch == b.epoch && true)))))))))))))))))))))))) =
                SV.b b.valid)
              (br (b.kind == 4)
                (br (iandn IntKind.u8 b.sel 199 != 0 || decide (1 < b.turn) || iandn IntKind.u8 b.guard 192 != 0 || b.iLoad && b.iCount != 0 || b.irq && !b.iOn) (SV.b false = SV.b b.valid)
                  (SV.b
                      (b.kind == b.kind &&
                        (b.sub == b.sub &&
                          (b.hard == b.hard &&
                            (b.work == b.work &&
                              (b.prg == b.prg &&
                                (b.chr == b.chr &&
                                  (b.cram == b.cram &&
                                    (b.shift == 0 &&
                                      (b.ctrl == 0 && (b.chrA == 0 && (b.chrB == 0 && (b.prgR == 0 && (b.last == 0 && (b.latch == 0 && (b.sel == b.sel && (decide (b.rs = b.rs) && (b.turn == b.turn && (b.guard == b.guard && (b.iLatch == b.iLatch && (b.iCount == b.iCount && (b.iLoad == b.iLoad && (b.iOn == b.iOn && (b.irq == b.irq && (b.epoch == b.epoch && true)))))))))))))))))))))))) =
                    SV.b b.valid))
                (SV.b
                    (b.kind == b.kind &&
                      (b.sub == b.sub &&
                        (b.hard == b.hard &&
                          (b.work == b.work &&
                            (b.prg == b.prg &&
                              (b.chr == b.chr &&
                                (b.cram == b.cram &&
                                  (b.shift == 0 && (b.ctrl == 0 && (b.chrA == 0 && (b.chrB == 0 && (b.prgR == 0 && (b.last == 0 && (b.latch == 0 && (b.sel == 0 && (decide (b.rs = [0, 0, 0, 0, 0, 0, 0, 0]) && (b.turn == 0 && (b.guard == 0 && (b.iLatch == 0 && (b.iCount == 0 && (b.iLoad == false && (b.iOn == false && (b.irq == false && (b.epoch == b.epoch && true)))))))))))))))))))))))) =
                  SV.b b.valid)))
            (br (b.kind == 3)
              (br (b.kind == 3)
                (SV.b
                    (b.kind == b.kind &&
                      (b.sub == b.sub &&
                        (b.hard == b.hard &&
                          (b.work == b.work &&
                            (b.prg == b.prg &&
                              (b.chr == b.chr &&
                                (b.cram == b.cram &&
                                  (b.shift == 0 && (b.ctrl == 0 && (b.chrA == 0 && (b.chrB == 0 && (b.prgR == 0 && (b.last == 0 && (b.latch == b.latch && (b.sel == 0 && (decide (b.rs = [0, 0, 0, 0, 0, 0, 0, 0]) && (b.turn == 0 && (b.guard == 0 && (b.iLatch == 0 && (b.iCount == 0 && (b.iLoad == false && (b.iOn == false && (b.irq == false && (b.epoch == b.epoch && true)))))))))))))))))))))))) =
                  SV.b b.valid)
                (br (b.kind == 4)
                  (br (iandn IntKind.u8 b.sel 199 != 0 || decide (1 < b.turn) || iandn IntKind.u8 b.guard 192 != 0 || b.iLoad && b.iCount != 0 || b.irq && !b.iOn) (SV.b false = SV.b b.valid)
                    (SV.b
                        (b.kind == b.kind &&
                          (b.sub == b.sub &&
                            (b.hard == b.hard &&
                              (b.work == b.work &&
                                (b.prg == b.prg &&
                                  (b.chr == b.chr &&
                                    (b.cram == b.cram &&
                                      (b.shift == 0 &&
                                        (b.ctrl == 0 && (b.chrA == 0 && (b.chrB == 0 && (b.prgR == 0 && (b.last == 0 && (b.latch == 0 && (b.sel == b.sel && (decide (b.rs = b.rs) && (b.turn == b.turn && (b.guard == b.guard && (b.iLatch == b.iLatch && (b.iCount == b.iCount && (b.iLoad == b.iLoad && (b.iOn == b.iOn && (b.irq == b.irq && (b.epoch == b.epoch && true)))))))))))))))))))))))) =
                      SV.b b.valid))
                  (SV.b
                      (b.kind == b.kind &&
                        (b.sub == b.sub &&
                          (b.hard == b.hard &&
                            (b.work == b.work &&
                              (b.prg == b.prg &&
                                (b.chr == b.chr &&
                                  (b.cram == b.cram &&
                                    (b.shift == 0 && (b.ctrl == 0 && (b.chrA == 0 && (b.chrB == 0 && (b.prgR == 0 && (b.last == 0 && (b.latch == 0 && (b.sel == 0 && (decide (b.rs = [0, 0, 0, 0, 0, 0, 0, 0]) && (b.turn == 0 && (b.guard == 0 && (b.iLatch == 0 && (b.iCount == 0 && (b.iLoad == false && (b.iOn == false && (b.irq == false && (b.epoch == b.epoch && true)))))))))))))))))))))))) =
                    SV.b b.valid)))
              (br (b.kind == 7)
                (SV.b
                    (b.kind == b.kind &&
                      (b.sub == b.sub &&
                        (b.hard == b.hard &&
                          (b.work == b.work &&
                            (b.prg == b.prg &&
                              (b.chr == b.chr &&
                                (b.cram == b.cram &&
                                  (b.shift == 0 && (b.ctrl == 0 && (b.chrA == 0 && (b.chrB == 0 && (b.prgR == 0 && (b.last == 0 && (b.latch == b.latch && (b.sel == 0 && (decide (b.rs = [0, 0, 0, 0, 0, 0, 0, 0]) && (b.turn == 0 && (b.guard == 0 && (b.iLatch == 0 && (b.iCount == 0 && (b.iLoad == false && (b.iOn == false && (b.irq == false && (b.epoch == b.epoch && true)))))))))))))))))))))))) =
                  SV.b b.valid)
                (br (b.kind == 4)
                  (br (iandn IntKind.u8 b.sel 199 != 0 || decide (1 < b.turn) || iandn IntKind.u8 b.guard 192 != 0 || b.iLoad && b.iCount != 0 || b.irq && !b.iOn) (SV.b false = SV.b b.valid)
                    (SV.b
                        (b.kind == b.kind &&
                          (b.sub == b.sub &&
                            (b.hard == b.hard &&
                              (b.work == b.work &&
                                (b.prg == b.prg &&
                                  (b.chr == b.chr &&
                                    (b.cram == b.cram &&
                                      (b.shift == 0 &&
                                        (b.ctrl == 0 && (b.chrA == 0 && (b.chrB == 0 && (b.prgR == 0 && (b.last == 0 && (b.latch == 0 && (b.sel == b.sel && (decide (b.rs = b.rs) && (b.turn == b.turn && (b.guard == b.guard && (b.iLatch == b.iLatch && (b.iCount == b.iCount && (b.iLoad == b.iLoad && (b.iOn == b.iOn && (b.irq == b.irq && (b.epoch == b.epoch && true)))))))))))))))))))))))) =
                      SV.b b.valid))
                  (SV.b
                      (b.kind == b.kind &&
                        (b.sub == b.sub &&
                          (b.hard == b.hard &&
                            (b.work == b.work &&
                              (b.prg == b.prg &&
                                (b.chr == b.chr &&
                                  (b.cram == b.cram &&
                                    (b.shift == 0 && (b.ctrl == 0 && (b.chrA == 0 && (b.chrB == 0 && (b.prgR == 0 && (b.last == 0 && (b.latch == 0 && (b.sel == 0 && (decide (b.rs = [0, 0, 0, 0, 0, 0, 0, 0]) && (b.turn == 0 && (b.guard == 0 && (b.iLatch == 0 && (b.iCount == 0 && (b.iLoad == false && (b.iOn == false && (b.irq == false && (b.epoch == b.epoch && true)))))))))))))))))))))))) =
                    SV.b b.valid)))))))
    (br (!listB b.kind b.sub || !false) (SV.b false = SV.b b.valid)
      (br (b.kind == 1)
        (br (!b.shift == 0 && true)
          (br
            (b.shift == 0 ||
                decide
                  (31 <
                    bif decide ((bif decide ((bif decide ((bif decide (b.shift < b.ctrl) then b.ctrl else b.shift) < b.chrA) then b.chrA else bif decide (b.shift < b.ctrl) then b.ctrl else b.shift) < b.chrB) then b.chrB else bif decide ((bif decide (b.shift < b.ctrl) then b.ctrl else b.shift) < b.chrA) then b.chrA else bif decide (b.shift < b.ctrl) then b.ctrl else b.shift) < b.prgR) then b.prgR
                    else bif decide ((bif decide ((bif decide (b.shift < b.ctrl) then b.ctrl else b.shift) < b.chrA) then b.chrA else bif decide (b.shift < b.ctrl) then b.ctrl else b.shift) < b.chrB) then b.chrB else bif decide ((bif decide (b.shift < b.ctrl) then b.ctrl else b.shift) < b.chrA) then b.chrA else bif decide (b.shift < b.ctrl) then b.ctrl else b.shift) ||
              decide (b.last < 0) && b.last != -2)
            (SV.b false = SV.b b.valid)
            (SV.b
                (b.kind == b.kind &&
                  (b.sub == b.sub &&
                    (b.hard == b.hard &&
                      (b.work == b.work &&
                        (b.prg == b.prg &&
                          (b.chr == b.chr &&
                            (b.cram == b.cram &&
                              (b.shift == b.shift &&
                                (b.ctrl == b.ctrl && (b.chrA == b.chrA && (b.chrB == b.chrB && (b.prgR == b.prgR && (b.last == b.last && (b.latch == 0 && (b.sel == 0 && (decide (b.rs = [0, 0, 0, 0, 0, 0, 0, 0]) && (b.turn == 0 && (b.guard == 0 && (b.iLatch == 0 && (b.iCount == 0 && (b.iLoad == false && (b.iOn == false && (b.irq == false && (b.epoch == b.epoch && true)))))))))))))))))))))))) =
              SV.b b.valid))
          (br (b.shift == 0 || decide (31 < 0) || decide (b.last < 0) && b.last != -2) (SV.b false = SV.b b.valid)
            (SV.b
                (b.kind == b.kind &&
                  (b.sub == b.sub &&
                    (b.hard == b.hard &&
                      (b.work == b.work &&
                        (b.prg == b.prg &&
                          (b.chr == b.chr &&
                            (b.cram == b.cram &&
                              (b.shift == b.shift &&
                                (b.ctrl == b.ctrl && (b.chrA == b.chrA && (b.chrB == b.chrB && (b.prgR == b.prgR && (b.last == b.last && (b.latch == 0 && (b.sel == 0 && (decide (b.rs = [0, 0, 0, 0, 0, 0, 0, 0]) && (b.turn == 0 && (b.guard == 0 && (b.iLatch == 0 && (b.iCount == 0 && (b.iLoad == false && (b.iOn == false && (b.irq == false && (b.epoch == b.epoch && true)))))))))))))))))))))))) =
              SV.b b.valid)))
        (br (b.kind == 2)
          (br (b.kind == 2)
            (SV.b
                (b.kind == b.kind &&
                  (b.sub == b.sub &&
                    (b.hard == b.hard &&
                      (b.work == b.work &&
                        (b.prg == b.prg &&
                          (b.chr == b.chr &&
                            (b.cram == b.cram &&
                              (b.shift == 0 && (b.ctrl == 0 && (b.chrA == 0 && (b.chrB == 0 && (b.prgR == 0 && (b.last == 0 && (b.latch == b.latch && (b.sel == 0 && (decide (b.rs = [0, 0, 0, 0, 0, 0, 0, 0]) && (b.turn == 0 && (b.guard == 0 && (b.iLatch == 0 && (b.iCount == 0 && (b.iLoad == false && (b.iOn == false && (b.irq == false && (b.epoch == b.epoch && true)))))))))))))))))))))))) =
              SV.b b.valid)
            (br (b.kind == 4)
              (br (iandn IntKind.u8 b.sel 199 != 0 || decide (1 < b.turn) || iandn IntKind.u8 b.guard 192 != 0 || b.iLoad && b.iCount != 0 || b.irq && !b.iOn) (SV.b false = SV.b b.valid)
                (SV.b
                    (b.kind == b.kind &&
                      (b.sub == b.sub &&
                        (b.hard == b.hard &&
                          (b.work == b.work &&
                            (b.prg == b.prg &&
                              (b.chr == b.chr &&
                                (b.cram == b.cram &&
                                  (b.shift == 0 && (b.ctrl == 0 && (b.chrA == 0 && (b.chrB == 0 && (b.prgR == 0 && (b.last == 0 && (b.latch == 0 && (b.sel == b.sel && (decide (b.rs = b.rs) && (b.turn == b.turn && (b.guard == b.guard && (b.iLatch == b.iLatch && (b.iCount == b.iCount && (b.iLoad == b.iLoad && (b.iOn == b.iOn && (b.irq == b.irq && (b.epoch == b.epoch && true)))))))))))))))))))))))) =
                  SV.b b.valid))
              (SV.b
                  (b.kind == b.kind &&
                    (b.sub == b.sub &&
                      (b.hard == b.hard &&
                        (b.work == b.work &&
                          (b.prg == b.prg &&
                            (b.chr == b.chr &&
                              (b.cram == b.cram &&
                                (b.shift == 0 && (b.ctrl == 0 && (b.chrA == 0 && (b.chrB == 0 && (b.prgR == 0 && (b.last == 0 && (b.latch == 0 && (b.sel == 0 && (decide (b.rs = [0, 0, 0, 0, 0, 0, 0, 0]) && (b.turn == 0 && (b.guard == 0 && (b.iLatch == 0 && (b.iCount == 0 && (b.iLoad == false && (b.iOn == false && (b.irq == false && (b.epoch == b.epoch && true)))))))))))))))))))))))) =
                SV.b b.valid)))
          (br (b.kind == 3)
            (br (b.kind == 3)
              (SV.b
                  (b.kind == b.kind &&
                    (b.sub == b.sub &&
                      (b.hard == b.hard &&
                        (b.work == b.work &&
                          (b.prg == b.prg &&
                            (b.chr == b.chr &&
                              (b.cram == b.cram &&
                                (b.shift == 0 && (b.ctrl == 0 && (b.chrA == 0 && (b.chrB == 0 && (b.prgR == 0 && (b.last == 0 && (b.latch == b.latch && (b.sel == 0 && (decide (b.rs = [0, 0, 0, 0, 0, 0, 0, 0]) && (b.turn == 0 && (b.guard == 0 && (b.iLatch == 0 && (b.iCount == 0 && (b.iLoad == false && (b.iOn == false && (b.irq == false && (b.epoch == b.epoch && true)))))))))))))))))))))))) =
                SV.b b.valid)
              (br (b.kind == 4)
                (br (iandn IntKind.u8 b.sel 199 != 0 || decide (1 < b.turn) || iandn IntKind.u8 b.guard 192 != 0 || b.iLoad && b.iCount != 0 || b.irq && !b.iOn) (SV.b false = SV.b b.valid)
                  (SV.b
                      (b.kind == b.kind &&
                        (b.sub == b.sub &&
                          (b.hard == b.hard &&
                            (b.work == b.work &&
                              (b.prg == b.prg &&
                                (b.chr == b.chr &&
                                  (b.cram == b.cram &&
                                    (b.shift == 0 &&
                                      (b.ctrl == 0 && (b.chrA == 0 && (b.chrB == 0 && (b.prgR == 0 && (b.last == 0 && (b.latch == 0 && (b.sel == b.sel && (decide (b.rs = b.rs) && (b.turn == b.turn && (b.guard == b.guard && (b.iLatch == b.iLatch && (b.iCount == b.iCount && (b.iLoad == b.iLoad && (b.iOn == b.iOn && (b.irq == b.irq && (b.epoch == b.epoch && true)))))))))))))))))))))))) =
                    SV.b b.valid))
                (SV.b
                    (b.kind == b.kind &&
                      (b.sub == b.sub &&
                        (b.hard == b.hard &&
                          (b.work == b.work &&
                            (b.prg == b.prg &&
                              (b.chr == b.chr &&
                                (b.cram == b.cram &&
                                  (b.shift == 0 && (b.ctrl == 0 && (b.chrA == 0 && (b.chrB == 0 && (b.prgR == 0 && (b.last == 0 && (b.latch == 0 && (b.sel == 0 && (decide (b.rs = [0, 0, 0, 0, 0, 0, 0, 0]) && (b.turn == 0 && (b.guard == 0 && (b.iLatch == 0 && (b.iCount == 0 && (b.iLoad == false && (b.iOn == false && (b.irq == false && (b.epoch == b.epoch && true)))))))))))))))))))))))) =
                  SV.b b.valid)))
            (br (b.kind == 7)
              (SV.b
                  (b.kind == b.kind &&
                    (b.sub == b.sub &&
                      (b.hard == b.hard &&
                        (b.work == b.work &&
                          (b.prg == b.prg &&
                            (b.chr == b.chr &&
                              (b.cram == b.cram &&
                                (b.shift == 0 && (b.ctrl == 0 && (b.chrA == 0 && (b.chrB == 0 && (b.prgR == 0 && (b.last == 0 && (b.latch == b.latch && (b.sel == 0 && (decide (b.rs = [0, 0, 0, 0, 0, 0, 0, 0]) && (b.turn == 0 && (b.guard == 0 && (b.iLatch == 0 && (b.iCount == 0 && (b.iLoad == false && (b.iOn == false && (b.irq == false && (b.epoch == b.epoch && true)))))))))))))))))))))))) =
                SV.b b.valid)
              (br (b.kind == 4)
                (br (iandn IntKind.u8 b.sel 199 != 0 || decide (1 < b.turn) || iandn IntKind.u8 b.guard 192 != 0 || b.iLoad && b.iCount != 0 || b.irq && !b.iOn) (SV.b false = SV.b b.valid)
                  (SV.b
                      (b.kind == b.kind &&
                        (b.sub == b.sub &&
                          (b.hard == b.hard &&
                            (b.work == b.work &&
                              (b.prg == b.prg &&
                                (b.chr == b.chr &&
                                  (b.cram == b.cram &&
                                    (b.shift == 0 &&
                                      (b.ctrl == 0 && (b.chrA == 0 && (b.chrB == 0 && (b.prgR == 0 && (b.last == 0 && (b.latch == 0 && (b.sel == b.sel && (decide (b.rs = b.rs) && (b.turn == b.turn && (b.guard == b.guard && (b.iLatch == b.iLatch && (b.iCount == b.iCount && (b.iLoad == b.iLoad && (b.iOn == b.iOn && (b.irq == b.irq && (b.epoch == b.epoch && true)))))))))))))))))))))))) =
                    SV.b b.valid))
                (SV.b
                    (b.kind == b.kind &&
                      (b.sub == b.sub &&
                        (b.hard == b.hard &&
                          (b.work == b.work &&
                            (b.prg == b.prg &&
                              (b.chr == b.chr &&
                                (b.cram == b.cram &&
                                  (b.shift == 0 && (b.ctrl == 0 && (b.chrA == 0 && (b.chrB == 0 && (b.prgR == 0 && (b.last == 0 && (b.latch == 0 && (b.sel == 0 && (decide (b.rs = [0, 0, 0, 0, 0, 0, 0, 0]) && (b.turn == 0 && (b.guard == 0 && (b.iLatch == 0 && (b.iCount == 0 && (b.iLoad == false && (b.iOn == false && (b.irq == false && (b.epoch == b.epoch && true)))))))))))))))))))))))) =
                  SV.b b.valid)))))))) := by kernel_rfl
theorem t23 (b : Brd) : bodyK (EB gS noLoop) (callN (EB gS noLoop) 1) 23 Tryd.f23 [b.sv] [] (fun x _ => onB (x.cl 0) (x = .b b.valid)) = (
  True ∧
  br (!(listB b.kind b.sub && b.sized)) (SV.b false = SV.b b.valid)
    (br (b.kind == 1)
      (br (decide (b.shift < 1) || decide (31 < b.shift) || decide (31 < b.ctrl) || decide (31 < b.chrA) || decide (31 < b.chrB) || decide (31 < b.prgR)) (SV.b false = SV.b b.valid)
        (br (decide (b.last < -2) || b.last == -1) (SV.b false = SV.b b.valid)
          (SV.b
              (b.kind == b.kind &&
                (b.sub == b.sub &&
                  (b.hard == b.hard &&
                    (b.work == b.work &&
                      (b.prg == b.prg &&
                        (b.chr == b.chr &&
                          (b.cram == b.cram &&
                            (b.shift == b.shift &&
                              (b.ctrl == b.ctrl && (b.chrA == b.chrA && (b.chrB == b.chrB && (b.prgR == b.prgR && (b.last == b.last && (b.latch == 0 && (b.sel == 0 && (decide (b.rs = [0, 0, 0, 0, 0, 0, 0, 0]) && (b.turn == 0 && (b.guard == 0 && (b.iLatch == 0 && (b.iCount == 0 && (b.iLoad == false && (b.iOn == false && (b.irq == false && (b.epoch == b.epoch && true)))))))))))))))))))))))) =
            SV.b b.valid)))
      (br (b.kind == 2)
        (br (b.kind == 2)
          (SV.b
              (b.kind == b.kind &&
                (b.sub == b.sub &&
                  (b.hard == b.hard &&
                    (b.work == b.work &&
                      (b.prg == b.prg &&
                        (b.chr == b.chr &&
                          (b.cram == b.cram &&
                            (b.shift == 0 && (b.ctrl == 0 && (b.chrA == 0 && (b.chrB == 0 && (b.prgR == 0 && (b.last == 0 && (b.latch == b.latch && (b.sel == 0 && (decide (b.rs = [0, 0, 0, 0, 0, 0, 0, 0]) && (b.turn == 0 && (b.guard == 0 && (b.iLatch == 0 && (b.iCount == 0 && (b.iLoad == false && (b.iOn == false && (b.irq == false && (b.epoch == b.epoch && true)))))))))))))))))))))))) =
            SV.b b.valid)
          (br (b.kind == 4)
            (br (iand IntKind.u8 b.sel 56 != 0 || decide (1 < b.turn) || iand IntKind.u8 b.guard 63 != 0) (SV.b false = SV.b b.valid)
              (br (b.iLoad && b.iCount != 0 || b.irq && !b.iOn) (SV.b false = SV.b b.valid)
                (SV.b
                    (b.kind == b.kind &&
                      (b.sub == b.sub &&
                        (b.hard == b.hard &&
                          (b.work == b.work &&
                            (b.prg == b.prg &&
                              (b.chr == b.chr &&
                                (b.cram == b.cram &&
                                  (b.shift == 0 && (b.ctrl == 0 && (b.chrA == 0 && (b.chrB == 0 && (b.prgR == 0 && (b.last == 0 && (b.latch == 0 && (b.sel == b.sel && (decide (b.rs = b.rs) && (b.turn == b.turn && (b.guard == b.guard && (b.iLatch == b.iLatch && (b.iCount == b.iCount && (b.iLoad == b.iLoad && (b.iOn == b.iOn && (b.irq == b.irq && (b.epoch == b.epoch && true)))))))))))))))))))))))) =
                  SV.b b.valid)))
            (SV.b
                (b.kind == b.kind &&
                  (b.sub == b.sub &&
                    (b.hard == b.hard &&
                      (b.work == b.work &&
                        (b.prg == b.prg &&
                          (b.chr == b.chr &&
                            (b.cram == b.cram &&
                              (b.shift == 0 && (b.ctrl == 0 && (b.chrA == 0 && (b.chrB == 0 && (b.prgR == 0 && (b.last == 0 && (b.latch == 0 && (b.sel == 0 && (decide (b.rs = [0, 0, 0, 0, 0, 0, 0, 0]) && (b.turn == 0 && (b.guard == 0 && (b.iLatch == 0 && (b.iCount == 0 && (b.iLoad == false && (b.iOn == false && (b.irq == false && (b.epoch == b.epoch && true)))))))))))))))))))))))) =
              SV.b b.valid)))
        (br (b.kind == 3)
          (br (b.kind == 3)
            (SV.b
                (b.kind == b.kind &&
                  (b.sub == b.sub &&
                    (b.hard == b.hard &&
                      (b.work == b.work &&
                        (b.prg == b.prg &&
                          (b.chr == b.chr &&
                            (b.cram == b.cram &&
                              (b.shift == 0 && (b.ctrl == 0 && (b.chrA == 0 && (b.chrB == 0 && (b.prgR == 0 && (b.last == 0 && (b.latch == b.latch && (b.sel == 0 && (decide (b.rs = [0, 0, 0, 0, 0, 0, 0, 0]) && (b.turn == 0 && (b.guard == 0 && (b.iLatch == 0 && (b.iCount == 0 && (b.iLoad == false && (b.iOn == false && (b.irq == false && (b.epoch == b.epoch && true)))))))))))))))))))))))) =
              SV.b b.valid)
            (br (b.kind == 4)
              (br (iand IntKind.u8 b.sel 56 != 0 || decide (1 < b.turn) || iand IntKind.u8 b.guard 63 != 0) (SV.b false = SV.b b.valid)
                (br (b.iLoad && b.iCount != 0 || b.irq && !b.iOn) (SV.b false = SV.b b.valid)
                  (SV.b
                      (b.kind == b.kind &&
                        (b.sub == b.sub &&
                          (b.hard == b.hard &&
                            (b.work == b.work &&
                              (b.prg == b.prg &&
                                (b.chr == b.chr &&
                                  (b.cram == b.cram &&
                                    (b.shift == 0 &&
                                      (b.ctrl == 0 && (b.chrA == 0 && (b.chrB == 0 && (b.prgR == 0 && (b.last == 0 && (b.latch == 0 && (b.sel == b.sel && (decide (b.rs = b.rs) && (b.turn == b.turn && (b.guard == b.guard && (b.iLatch == b.iLatch && (b.iCount == b.iCount && (b.iLoad == b.iLoad && (b.iOn == b.iOn && (b.irq == b.irq && (b.epoch == b.epoch && true)))))))))))))))))))))))) =
                    SV.b b.valid)))
              (SV.b
                  (b.kind == b.kind &&
                    (b.sub == b.sub &&
                      (b.hard == b.hard &&
                        (b.work == b.work &&
                          (b.prg == b.prg &&
                            (b.chr == b.chr &&
                              (b.cram == b.cram &&
                                (b.shift == 0 && (b.ctrl == 0 && (b.chrA == 0 && (b.chrB == 0 && (b.prgR == 0 && (b.last == 0 && (b.latch == 0 && (b.sel == 0 && (decide (b.rs = [0, 0, 0, 0, 0, 0, 0, 0]) && (b.turn == 0 && (b.guard == 0 && (b.iLatch == 0 && (b.iCount == 0 && (b.iLoad == false && (b.iOn == false && (b.irq == false && (b.epoch == b.epoch && true)))))))))))))))))))))))) =
                SV.b b.valid)))
          (br (b.kind == 7)
            (SV.b
                (b.kind == b.kind &&
                  (b.sub == b.sub &&
                    (b.hard == b.hard &&
                      (b.work == b.work &&
                        (b.prg == b.prg &&
                          (b.chr == b.chr &&
                            (b.cram == b.cram &&
                              (b.shift == 0 && (b.ctrl == 0 && (b.chrA == 0 && (b.chrB == 0 && (b.prgR == 0 && (b.last == 0 && (b.latch == b.latch && (b.sel == 0 && (decide (b.rs = [0, 0, 0, 0, 0, 0, 0, 0]) && (b.turn == 0 && (b.guard == 0 && (b.iLatch == 0 && (b.iCount == 0 && (b.iLoad == false && (b.iOn == false && (b.irq == false && (b.epoch == b.epoch && true)))))))))))))))))))))))) =
              SV.b b.valid)
            (br (b.kind == 4)
              (br (iand IntKind.u8 b.sel 56 != 0 || decide (1 < b.turn) || iand IntKind.u8 b.guard 63 != 0) (SV.b false = SV.b b.valid)
                (br (b.iLoad && b.iCount != 0 || b.irq && !b.iOn) (SV.b false = SV.b b.valid)
                  (SV.b
                      (b.kind == b.kind &&
                        (b.sub == b.sub &&
                          (b.hard == b.hard &&
                            (b.work == b.work &&
                              (b.prg == b.prg &&
                                (b.chr == b.chr &&
                                  (b.cram == b.cram &&
                                    (b.shift == 0 &&
                                      (b.ctrl == 0 && (b.chrA == 0 && (b.chrB == 0 && (b.prgR == 0 && (b.last == 0 && (b.latch == 0 && (b.sel == b.sel && (decide (b.rs = b.rs) && (b.turn == b.turn && (b.guard == b.guard && (b.iLatch == b.iLatch && (b.iCount == b.iCount && (b.iLoad == b.iLoad && (b.iOn == b.iOn && (b.irq == b.irq && (b.epoch == b.epoch && true)))))))))))))))))))))))) =
                    SV.b b.valid)))
              (SV.b
                  (b.kind == b.kind &&
                    (b.sub == b.sub &&
                      (b.hard == b.hard &&
                        (b.work == b.work &&
                          (b.prg == b.prg &&
                            (b.chr == b.chr &&
                              (b.cram == b.cram &&
                                (b.shift == 0 && (b.ctrl == 0 && (b.chrA == 0 && (b.chrB == 0 && (b.prgR == 0 && (b.last == 0 && (b.latch == 0 && (b.sel == 0 && (decide (b.rs = [0, 0, 0, 0, 0, 0, 0, 0]) && (b.turn == 0 && (b.guard == 0 && (b.iLatch == 0 && (b.iCount == 0 && (b.iLoad == false && (b.iOn == false && (b.irq == false && (b.epoch == b.epoch && true)))))))))))))))))))))))) =
                SV.b b.valid))))))) := by kernel_rfl

end Go.Sx

namespace Go.Sx
open Go.Proofs
set_option linter.unusedVariables false
set_option linter.unusedSimpArgs false
set_option maxRecDepth 100000

theorem valid_of {b : Brd} (h : listB b.kind b.sub = true) (h2 : b.sized = true) : b.valid = b.regs := by unfold Brd.valid; rw [h, h2]; rfl
theorem valid_not {b : Brd} (h : (listB b.kind b.sub && b.sized) = false) : b.valid = false := by unfold Brd.valid; rw [h]; rfl
theorem kinds {b : Brd} (h : listB b.kind b.sub = true) : b.kind = 0 ∨ b.kind = 1 ∨ b.kind = 2 ∨ b.kind = 3 ∨ b.kind = 4 ∨ b.kind = 7 := by
  simp [listB] at h; omega

def i64 (n : Int) : Prop := -9223372036854775808 ≤ n ∧ n ≤ 9223372036854775807
def u8 (n : Int) : Prop := 0 ≤ n ∧ n ≤ 255
def u16 (n : Int) : Prop := 0 ≤ n ∧ n ≤ 65535
/-- What the fields' types say. -/
structure Brd.fit (b : Brd) : Prop where
  kind : i64 b.kind
  sub : i64 b.sub
  hard : u8 b.hard
  prg : i64 b.prg
  chr : i64 b.chr
  shift : u8 b.shift
  ctrl : u8 b.ctrl
  chrA : u8 b.chrA
  chrB : u8 b.chrB
  prgR : u8 b.prgR
  last : i64 b.last
  latch : u8 b.latch
  sel : u8 b.sel
  rsL : b.rs.length = 8
  rs : ∀ x ∈ b.rs, u8 x
  turn : u8 b.turn
  guard : u8 b.guard
  iLatch : u8 b.iLatch
  iCount : u8 b.iCount
  epoch : i64 b.epoch
theorem p23 (b : Brd) (hf : b.fit) : Chk (bodyK (EB gS noLoop) (callN (EB gS noLoop) 1) 23 Tryd.f23 [b.sv] [] (fun x _ => onB (x.cl 0) (x = .b b.valid))) := by
  constructor
  rw [t23]
  refine ⟨trivial, ?_⟩
  cases hb : (listB b.kind b.sub && b.sized) with
  | false => rw [valid_not hb]; rfl
  | true =>
    rw [Bool.not_true, br_f]
    simp only [Bool.and_eq_true] at hb
    rw [valid_of hb.1 hb.2]
    have hk := kinds hb.1
    clear hb
    unfold Brd.regs Brd.m3 Brd.m1
    rcases hk with k | k | k | k | k | k <;> rw [k] <;> simp only [Int.reduceBEq, br_t, br_f, Int.reduceEq, if_true, if_false, or_false, or_true, false_or, true_or]
    · congr 1; grind
    · refine br_in (fun c => ?_) (fun c => br_in (fun d => ?_) (fun d => ?_)) <;> congr 1 <;> grind
    · congr 1; grind
    · congr 1; grind
    · refine br_in (fun c => ?_) (fun c => br_in (fun d => ?_) (fun d => ?_)) <;> congr 1 <;> grind
    · congr 1; grind

theorem iandn199 (x : Int) : iandn .u8 x 199 = iand .u8 x 56 := by
  unfold iandn iand
  rw [show ~~~BitVec.ofInt IntKind.u8.bits 199 = BitVec.ofInt IntKind.u8.bits 56 by decide]
theorem iandn192 (x : Int) : iandn .u8 x 192 = iand .u8 x 63 := by
  unfold iandn iand
  rw [show ~~~BitVec.ofInt IntKind.u8.bits 192 = BitVec.ofInt IntKind.u8.bits 63 by decide]

theorem bmax (a b c : Int) : decide (c < bif decide (a < b) then b else a) = (decide (c < a) || decide (c < b)) := by
  cases h : decide (a < b) <;> simp at h <;> simp <;> omega
theorem p22 (b : Brd) (hf : b.fit) : Chk (bodyK (EB gS noLoop) (callN (EB gS noLoop) 1) 22 Tryd.f22 [b.sv] [] (fun x _ => onB (x.cl 0) (x = .b b.valid))) := by
  constructor
  rw [t22]
  refine ⟨trivial, ?_⟩
  cases hb : listB b.kind b.sub with
  | false => rw [valid_not (by rw [hb]; rfl)]; rfl
  | true =>
    simp only [Bool.not_true, Bool.not_false, Bool.and_true, br_t, true_and, Bool.false_or]
    cases hs : b.sized with
    | false => rw [valid_not (by rw [hs]; simp)]; rfl
    | true =>
      rw [Bool.not_true, br_f]
      rw [valid_of hb hs]
      have hk := kinds hb
      clear hb hs
      have sh : 0 ≤ b.shift := hf.shift.1
      rw [iandn199, iandn192]
      unfold Brd.regs Brd.m3 Brd.m1
      rcases hk with k | k | k | k | k | k <;> rw [k] <;> simp only [Int.reduceBEq, br_t, br_f, Int.reduceEq, if_true, if_false, or_false, or_true, false_or, true_or]
      · congr 1; grind
      · simp only [bmax]
        refine br_in (fun c => br_in (fun d => ?_) (fun d => ?_)) (fun c => br_in (fun d => ?_) (fun d => ?_)) <;> congr 1 <;> grind
      · congr 1; grind
      · congr 1; grind
      · refine br_in (fun c => ?_) (fun c => ?_) <;> congr 1 <;> grind
      · congr 1; grind
def cValid : Con := .pure (preD dB Brd.fit) (onD dB fun b => .b b.valid)
theorem con22 : ConOK (EB gS noLoop) 22 cValid :=
  EBcon (enc := eB) (p := Brd.fit) (F := fun b => .b b.valid) gS_ok (noLoops _) 1 Tryd.func22 dB_ok p22
theorem con23 : ConOK (EB gS noLoop) 23 cValid :=
  EBcon (enc := eB) (p := Brd.fit) (F := fun b => .b b.valid) gS_ok (noLoops _) 1 Tryd.func23 dB_ok p23
end Go.Sx

namespace Go.Sx
open Go.Proofs
set_option linter.unusedVariables false
set_option linter.unusedSimpArgs false
set_option maxRecDepth 100000
def gU : List (Nat × Con) := [(22, cValid), (23, cValid), (50, cList), (51, cList), (52, cSize), (53, cLS)]
theorem gU_ok : GamOK (EB gU noLoop) := gam_ok rfl ⟨con22.of, con23.of, con50.of, con51.of, con52.of, con53.of, trivial⟩
structure Shape where
  m : Int
  s : Int
  ram : Int
  nv : Int
  p : Int
  c : Int
  vert : Bool
  four : Bool
def Shape.sv (x : Shape) : SV := .agg (.cons (.i .i64 x.m) (.cons (.i .i64 x.s) (.cons (.i .i64 x.ram) (.cons (.i .i64 x.nv) (.cons (.i .i64 x.p) (.cons (.i .i64 x.c) (.cons (.b x.vert) (.cons (.b x.four) .nil))))))))
structure Crt where
  fmt : Int
  m : Int
  s : Int
  vert : Bool
  four : Bool
  bat : Bool
  con : Int
  kind : Int
  tim : Int
  dev : Int
  misc : Int
  ram : Int
  nv : Int
  cram : Int
  cnv : Int
  p : Int
  c : Int
def Crt.sv (x : Crt) : SV := .agg (.cons (.i .i64 x.fmt) (.cons (.i .i64 x.m) (.cons (.i .i64 x.s) (.cons (.b x.vert) (.cons (.b x.four) (.cons (.b x.bat) (.cons (.i .i64 x.con) (.cons (.i .i64 x.kind) (.cons (.i .i64 x.tim) (.cons (.i .i64 x.dev)
  (.cons (.i .i64 x.misc) (.cons (.i .i64 x.ram) (.cons (.i .i64 x.nv) (.cons (.i .i64 x.cram) (.cons (.i .i64 x.cnv) (.cons .nils (.cons (.sln x.p) (.cons (.sln x.c) (.cons .nils .nil)))))))))))))))))))
def Shape.cart (x : Shape) : Crt := ⟨0, x.m, x.s, x.vert, x.four, false, 0, 0, 0, 0, 0, x.ram, x.nv, 0, 0, x.p % 1081344, x.c % 540672⟩
def two (a b : SV) : SV := .tup (.cons a (.cons b .nil))

theorem t41 (n m : Int) : bodyK (EB gU noLoop) (callN (EB gU noLoop) 1) 41 Tryd.f41 [.i .i64 n, .i .i64 m] [] (fun x _ => onB (x.cl 0) (x = .i .i64 (n % m))) = (
  br (!decide (m = 0)) (br (decide (n.tmod m < 0)) (SV.i IntKind.i64 (IntKind.i64.wrap (n.tmod m + m)) = SV.i IntKind.i64 (n % m)) (SV.i IntKind.i64 (n.tmod m) = SV.i IntKind.i64 (n % m))) False) := by kernel_rfl

end Go.Sx
