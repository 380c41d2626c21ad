/-
  SxB8: cartridge, New: contracts.
  SxB9: Valids, News: trees.
  SxA1: arguments by their types, of the mapper's seat.
  SxA2: the listed variable: what the law's condition says of it, and a world in which it lies.
  SxA3: News, Valids: they return true.
  SxB10: awake: contract; Valids: tree.
-/
import Derived.Test.YtiejpbhkchcmkaaDoorBxB
import Derived.Test.YtiejpbhkchcmkaaDoorSxB
import Derived.Test.YtiejpbhkchcmkaaDoorRows
import Derived.Lib.LaidTab
import Derived.ChangeSame
import Derived.ChangeVars
import Derived.JoinedOf
import Derived.RowKit
import Derived.OpenShut
namespace Go.Sx
open Go.Proofs
set_option linter.unusedVariables false
set_option linter.unusedSimpArgs false
set_option maxRecDepth 100000

structure Shape.fit (x : Shape) : Prop where
  m : i64 x.m
  s : i64 x.s
  ram : i64 x.ram
  nv : i64 x.nv
  p : i64 x.p
  c : i64 x.c
def shapeOf : SV → Option Shape
  | .agg (.cons (.i .i64 m) (.cons (.i .i64 s) (.cons (.i .i64 ram) (.cons (.i .i64 nv) (.cons (.i .i64 p) (.cons (.i .i64 c) (.cons (.b vert) (.cons (.b four) .nil)))))))) => some ⟨m, s, ram, nv, p, c, vert, four⟩
  | _ => none
theorem shapeOf_some {x : SV} {b : Shape} (h : shapeOf x = some b) : x = b.sv := by
  unfold shapeOf at h
  split at h
  · simp at h; subst h; rfl
  · simp at h
def dSh : List SV → Option Shape
  | [x] => shapeOf x
  | _ => none
def eSh (b : Shape) : List SV := [b.sv]
theorem dSh_ok (l : List SV) (b : Shape) (h : dSh l = some b) : l = eSh b := by
  unfold dSh at h; split at h
  · rw [shapeOf_some h]; rfl
  · simp at h
def cCart : Con := .pure (preD dSh Shape.fit) (onD dSh fun x => x.cart.sv)
theorem p20 (x : Shape) (h : x.fit) : Chk (bodyK (EB gW noLoop) (callN (EB gW noLoop) 3) 20 Tryd.f20 (eSh x) [] (fun y _ => onB (y.cl 0) (y = x.cart.sv))) := by
  constructor
  show bodyK (EB gW noLoop) (callN (EB gW noLoop) 3) 20 Tryd.f20 [x.sv] [] (fun y _ => onB (y.cl 0) (y = x.cart.sv))
  rw [t20]
  refine ⟨⟨h.p, by simp, by simp⟩, ⟨h.c, by simp, by simp⟩, ⟨rfl, by omega, by omega⟩, ⟨rfl, by omega, by omega⟩, rfl⟩
theorem con20 : ConOK (EB gW noLoop) 20 cCart := EBcon (enc := eSh) (p := Shape.fit) (F := fun x => x.cart.sv) gW_ok (noLoops _) 3 Tryd.func20 dSh_ok p20

/-! New. -/
structure Crt.fit (x : Crt) : Prop where
  p0 : 0 ≤ x.p
  p1 : x.p ≤ 1099511627776
  c0 : 0 ≤ x.c
  c1 : x.c ≤ 1099511627776
def crtOf : SV → Option Crt
  | .agg (.cons (.i .i64 fmt) (.cons (.i .i64 m) (.cons (.i .i64 s) (.cons (.b vert) (.cons (.b four) (.cons (.b bat) (.cons (.i .i64 con) (.cons (.i .i64 kind) (.cons (.i .i64 tim) (.cons (.i .i64 dev)
      (.cons (.i .i64 misc) (.cons (.i .i64 ram) (.cons (.i .i64 nv) (.cons (.i .i64 cram) (.cons (.i .i64 cnv) (.cons .nils (.cons (.sln p) (.cons (.sln c) (.cons .nils .nil))))))))))))))))))) =>
    some ⟨fmt, m, s, vert, four, bat, con, kind, tim, dev, misc, ram, nv, cram, cnv, p, c⟩
  | _ => none
theorem crtOf_some {x : SV} {b : Crt} (h : crtOf x = some b) : x = b.sv := by
  unfold crtOf at h
  split at h
  · simp at h; subst h; rfl
  · simp at h
def dCr : List SV → Option Crt
  | [x] => crtOf x
  | _ => none
def eCr (b : Crt) : List SV := [b.sv]
theorem dCr_ok (l : List SV) (b : Crt) (h : dCr l = some b) : l = eCr b := by
  unfold dCr at h; split at h
  · rw [crtOf_some h]; rfl
  · simp at h

def brd0 : Brd := ⟨0, 0, 0, false, 0, 0, false, 0, 0, 0, 0, 0, 0, 0, 0, [0, 0, 0, 0, 0, 0, 0, 0], 0, 0, 0, 0, false, false, false, 0⟩
/-- The board of a cartridge of this kind, submapper, hard mirroring, work RAM, banks. -/
def brdN (m s hard : Int) (work : Bool) (prg chr : Int) (cram : Bool) : Brd :=
  ⟨m, s, hard, work, prg, chr, cram, if m = 1 then 16 else 0, if m = 1 then 12 else 0, 0, 0, 0, if m = 1 then -2 else 0, 0, 0, if m = 4 then [0, 2, 4, 5, 6, 7, 0, 1] else [0, 0, 0, 0, 0, 0, 0, 0], 0, if m = 4 then 128 else 0, 0, 0, false, false, false, 0⟩
def newOK (p c : Int) : Bool := p % 16384 == 0 && c % 8192 == 0 && decide (1 ≤ p / 16384) && decide (p / 16384 ≤ 64) && decide (c / 8192 ≤ 64)
def newB (x : Crt) : Brd × Int :=
  if listB x.m x.s = true then (if newOK x.p x.c = true then
      (brdN x.m x.s (if x.four = true then 4 else if x.vert = true then 1 else 0) (decide (0 < x.ram) || decide (0 < x.nv)) (2 * (x.p / 16384)) (if x.c / 8192 = 0 then 8 else 8 * (x.c / 8192)) (decide (x.c / 8192 = 0)), 0)
    else (brd0, 21)) else (brd0, 20)
def cNew : Con := .pure (preD dCr Crt.fit) (onD dCr fun x => two (newB x).1.sv (.i .i64 (newB x).2))
def newQ (x : Crt) (y : SV) : Prop := onRes (fun b e => (b, e) = newB x) y
theorem newQ_out (x : Crt) (y : SV) (h : newQ x y) : y = two (newB x).1.sv (.i .i64 (newB x).2) := by
  unfold newQ onRes at h
  split at h
  · split at h
    · rename_i hb
      rw [← h, brdOf_some hb]; rfl
    · exact h.elim
  · exact h.elim

theorem sets8 : (((((((([0, 0, 0, 0, 0, 0, 0, 0] : List Int).set 0 0).set 1 2).set 2 4).set 3 5).set 4 6).set 5 7).set 6 0).set 7 1 = [0, 2, 4, 5, 6, 7, 0, 1] := by rfl

theorem p19 (x : Crt) (h : x.fit) : Chk (bodyK (EB gW noLoop) (callN (EB gW noLoop) 1) 19 Tryd.f19 (eCr x) [] (fun y _ => onB (y.cl 0) (newQ x y))) := by
  constructor
  show bodyK (EB gW noLoop) (callN (EB gW noLoop) 1) 19 Tryd.f19 [x.sv] [] (fun y _ => onB (y.cl 0) (onRes (fun b e => (b, e) = newB x) y))
  rw [t19]
  obtain ⟨h1, h2, h3, h4⟩ := h
  have e1 : x.p.tmod 16384 = x.p % 16384 := IntWalk.rem_in _ _ h1
  have e2 : x.c.tmod 8192 = x.c % 8192 := IntWalk.rem_in _ _ h3
  have e3 : IntKind.i64.wrap (x.p.tdiv 16384) = x.p / 16384 := IntWalk.i64_quo _ _ (by omega)
  have e4 : IntKind.i64.wrap (x.c.tdiv 8192) = x.c / 8192 := IntWalk.i64_quo _ _ (by omega)
  have e5 : IntKind.i64.wrap (2 * (x.p / 16384)) = 2 * (x.p / 16384) := IntWalk.i64_in _ (by omega)
  have e6 : IntKind.i64.wrap (8 * (x.c / 8192)) = 8 * (x.c / 8192) := IntWalk.i64_in _ (by omega)
  have e7 : Int.tmod 0 8192 = 0 := by decide
  simp only [e1, e2, e3, e4, e5, e6, e7, sets8]
  refine ⟨trivial, ?_⟩
  unfold newB newOK brdN brd0
  cases hl : listB x.m x.s with
  | false => rfl
  | true =>
    simp only [Bool.not_true, br_f, if_true]
    have hc : 0 ≤ x.c / 8192 := by omega
    have hp : 0 ≤ x.p / 16384 := by omega
    generalize x.p % 16384 = pm at *
    generalize x.c % 8192 = cm at *
    generalize x.p / 16384 = pq at *
    generalize x.c / 8192 = cq at *
    clear e1 e2 e3 e4 e5 e6 e7 h1 h2 h3 h4 hl
    repeat' (refine br_in (fun _ => ?_) (fun _ => ?_))
    all_goals grind
theorem p21 (x : Crt) (h : x.fit) : Chk (bodyK (EB gW noLoop) (callN (EB gW noLoop) 1) 21 Tryd.f21 (eCr x) [] (fun y _ => onB (y.cl 0) (newQ x y))) := by
  constructor
  show bodyK (EB gW noLoop) (callN (EB gW noLoop) 1) 21 Tryd.f21 [x.sv] [] (fun y _ => onB (y.cl 0) (onRes (fun b e => (b, e) = newB x) y))
  rw [t21]
  obtain ⟨h1, h2, h3, h4⟩ := h
  have e1 : x.p.tmod 16384 = x.p % 16384 := IntWalk.rem_in _ _ h1
  have e2 : x.c.tmod 8192 = x.c % 8192 := IntWalk.rem_in _ _ h3
  have e3 : IntKind.i64.wrap (x.p.tdiv 16384) = x.p / 16384 := IntWalk.i64_quo _ _ (by omega)
  have e4 : IntKind.i64.wrap (x.c.tdiv 8192) = x.c / 8192 := IntWalk.i64_quo _ _ (by omega)
  have e5 : IntKind.i64.wrap (2 * (x.p / 16384)) = 2 * (x.p / 16384) := IntWalk.i64_in _ (by omega)
  have e6 : IntKind.i64.wrap (8 * (x.c / 8192)) = 8 * (x.c / 8192) := IntWalk.i64_in _ (by omega)
  have e7 : Int.tmod 0 8192 = 0 := by decide
  simp only [e1, e2, e3, e4, e5, e6, e7, sets8]
  refine ⟨trivial, ?_⟩
  unfold newB newOK brdN brd0
  cases hl : listB x.m x.s with
  | false => rfl
  | true =>
    simp only [Bool.not_true, br_f, if_true]
    have hc : 0 ≤ x.c / 8192 := by omega
    have hp : 0 ≤ x.p / 16384 := by omega
    have hx : x.p = 16384 * (x.p / 16384) + x.p % 16384 ∧ 0 ≤ x.p % 16384 ∧ x.p % 16384 < 16384 := by omega
    have hy : x.c = 8192 * (x.c / 8192) + x.c % 8192 ∧ 0 ≤ x.c % 8192 ∧ x.c % 8192 < 8192 := by omega
    generalize x.p % 16384 = pm at *
    generalize x.c % 8192 = cm at *
    generalize x.p / 16384 = pq at *
    generalize x.c / 8192 = cq at *
    clear e1 e2 e3 e4 e5 e6 e7 h1 h2 h3 h4 hl
    repeat' (refine br_in (fun _ => ?_) (fun _ => ?_))
    all_goals grind
theorem con19 : ConOK (EB gW noLoop) 19 cNew := EBconQ (enc := eCr) (p := Crt.fit) (F := fun x => two (newB x).1.sv (.i .i64 (newB x).2)) (Q := newQ) gW_ok (noLoops _) 1 Tryd.func19 dCr_ok newQ_out p19
theorem con21 : ConOK (EB gW noLoop) 21 cNew := EBconQ (enc := eCr) (p := Crt.fit) (F := fun x => two (newB x).1.sv (.i .i64 (newB x).2)) (Q := newQ) gW_ok (noLoops _) 1 Tryd.func21 dCr_ok newQ_out p21
end Go.Sx

namespace Go.Sx
open Go.Proofs
set_option linter.unusedVariables false
set_option linter.unusedSimpArgs false
set_option maxRecDepth 100000
def gX : List (Nat × Con) := (19, cNew) :: (20, cCart) :: (21, cNew) :: gW
theorem gX_ok : GamOK (EB gX noLoop) := gam_ok rfl ⟨con19.of, con20.of, con21.of, con41.of, con22.of, con23.of, con50.of, con51.of, con52.of, con53.of, trivial⟩

theorem t24 (u : Unit) : bodyK (EB gX noLoop) (callN (EB gX noLoop) 1) 24 Tryd.f24 [] [] (fun x _ => onB (x.cl 0) (x = .b true)) = (
  mkOK 16384 16384 ∧
  mkOK 8192 8192 ∧
    Chk (Crt.mk 1 0 0 false false false 0 0 0 0 0 0 0 0 0 16384 8192).fit ∧
      Chk (Crt.mk 1 0 0 false false false 0 0 0 0 0 0 0 0 0 16384 8192).fit ∧
        Chk (newB (Crt.mk 1 0 0 false false false 0 0 0 0 0 0 0 0 0 16384 8192)).fst.fit ∧
          SV.b ((newB (Crt.mk 1 0 0 false false false 0 0 0 0 0 0 0 0 0 16384 8192)).snd == (newB (Crt.mk 1 0 0 false false false 0 0 0 0 0 0 0 0 0 16384 8192)).snd && (newB (Crt.mk 1 0 0 false false false 0 0 0 0 0 0 0 0 0 16384 8192)).fst.valid == ((newB (Crt.mk 1 0 0 false false false 0 0 0 0 0 0 0 0 0 16384 8192)).snd == 0)) = SV.b true) := by kernel_rfl
theorem t3 (x : Shape) : bodyK (EB gX noLoop) (callN (EB gX noLoop) 1) 3 Tryd.f3 [x.sv] [] (fun y _ => isTrue y) = (
  Chk x.fit ∧
  Chk x.cart.fit ∧
    Chk x.fit ∧
      Chk x.cart.fit ∧
        ((newB x.cart).fst.kind == (newB x.cart).fst.kind &&
              ((newB x.cart).fst.sub == (newB x.cart).fst.sub &&
                ((newB x.cart).fst.hard == (newB x.cart).fst.hard &&
                  ((newB x.cart).fst.work == (newB x.cart).fst.work &&
                    ((newB x.cart).fst.prg == (newB x.cart).fst.prg &&
                      ((newB x.cart).fst.chr == (newB x.cart).fst.chr &&
                        ((newB x.cart).fst.cram == (newB x.cart).fst.cram &&
                          ((newB x.cart).fst.shift == (newB x.cart).fst.shift &&
                            ((newB x.cart).fst.ctrl == (newB x.cart).fst.ctrl &&
                              ((newB x.cart).fst.chrA == (newB x.cart).fst.chrA &&
                                ((newB x.cart).fst.chrB == (newB x.cart).fst.chrB &&
                                  ((newB x.cart).fst.prgR == (newB x.cart).fst.prgR &&
                                    ((newB x.cart).fst.last == (newB x.cart).fst.last &&
                                      ((newB x.cart).fst.latch == (newB x.cart).fst.latch &&
                                        ((newB x.cart).fst.sel == (newB x.cart).fst.sel &&
                                          (decide ((newB x.cart).fst.rs = (newB x.cart).fst.rs) &&
                                            ((newB x.cart).fst.turn == (newB x.cart).fst.turn &&
                                              ((newB x.cart).fst.guard == (newB x.cart).fst.guard &&
                                                ((newB x.cart).fst.iLatch == (newB x.cart).fst.iLatch &&
                                                  ((newB x.cart).fst.iCount == (newB x.cart).fst.iCount && ((newB x.cart).fst.iLoad == (newB x.cart).fst.iLoad && ((newB x.cart).fst.iOn == (newB x.cart).fst.iOn && ((newB x.cart).fst.irq == (newB x.cart).fst.irq && ((newB x.cart).fst.epoch == (newB x.cart).fst.epoch && true))))))))))))))))))))))) &&
            (newB x.cart).snd == (newB x.cart).snd) =
          true) := by kernel_rfl

end Go.Sx

namespace Go.Sx
open Go.Proofs
set_option linter.unusedVariables false
set_option linter.unusedSimpArgs false
set_option maxRecDepth 100000
theorem inK_i64 {n : Int} (h : inK .i64 n) : i64 n := by simpa [inK, i64, IntKind.min, IntKind.max, IntKind.signed, IntKind.bits] using h
theorem inK_u8 {n : Int} (h : inK .u8 n) : u8 n := by simpa [inK, u8, IntKind.min, IntKind.max, IntKind.signed, IntKind.bits] using h
theorem inK_u16 {n : Int} (h : inK .u16 n) : u16 n := by simpa [inK, u16, IntKind.min, IntKind.max, IntKind.signed, IntKind.bits] using h
theorem is_bool {T : TypeId} {d : Nat} {sv : SV} (hu : Tryd.prog.underlying T = some .bool) (h : Is Tryd.prog (d + 1) T sv) : ∃ b, sv = .b b := by
  simp only [Is, hu] at h; exact h
theorem is_int {T : TypeId} {k : IntKind} {d : Nat} {sv : SV} (hu : Tryd.prog.underlying T = some (.int k)) (h : Is Tryd.prog (d + 1) T sv) : ∃ n, sv = .i k n ∧ inK k n := by
  simp only [Is, hu] at h; exact h
theorem is_arr {T e : TypeId} {n : Nat} {k : IntKind} {d : Nat} {sv : SV} (hu : Tryd.prog.underlying T = some (.array n e)) (he : Tryd.prog.underlying e = some (.int k)) (h : Is Tryd.prog (d + 1) T sv) :
    ∃ xs, sv = .arr k n xs ∧ xs.length = n ∧ ∀ x ∈ xs, inK k x := by
  simp only [Is, hu, he] at h; exact h
theorem und3 : Tryd.prog.underlying 3 = some (.int .i64) := by kernel_rfl
theorem und4 : Tryd.prog.underlying 4 = some .bool := by kernel_rfl
theorem und5 : Tryd.prog.underlying 5 = some (.int .u8) := by kernel_rfl
theorem und24 : Tryd.prog.underlying 24 = some (.int .u8) := by kernel_rfl
theorem und25 : Tryd.prog.underlying 25 = some (.array 8 5) := by kernel_rfl
theorem und41 : Tryd.prog.underlying 41 = some (.int .u16) := by kernel_rfl
def fTys (P : Program) (T : TypeId) : Option (List TypeId) := match P.underlying T with
  | some (.struct fs) => some (fs.toList.map (·.type))
  | _ => none
def IsT (is : TypeId → SV → Prop) : List TypeId → SVs → Prop
  | [], l => l = .nil
  | t :: tl, l => ∃ a r, l = .cons a r ∧ is t a ∧ IsT is tl r
theorem IsF_T {is : TypeId → SV → Prop} : ∀ {fs : List Field} {l : SVs}, IsF is fs l → IsT is (fs.map (·.type)) l
  | [], l, h => h
  | f :: fs, l, h => by
    obtain ⟨a, r, h1, h2, h3⟩ := h
    exact ⟨a, r, h1, h2, IsF_T h3⟩
theorem is_struct {P : Program} {T : TypeId} {ts : List TypeId} {d : Nat} {sv : SV} (hu : fTys P T = some ts) (h : Is P (d + 1) T sv) : ∃ l, sv = .agg l ∧ IsT (Is P d) ts l := by
  unfold fTys at hu
  split at hu
  · rename_i fs hf
    simp at hu; subst hu
    simp only [Is, hf] at h
    obtain ⟨l, h1, h2⟩ := h
    exact ⟨l, h1, IsF_T h2⟩
  · simp at hu
theorem und27 : fTys Tryd.prog 27 = some [3, 3, 24, 4, 3, 3, 4, 5, 5, 5, 5, 5, 3, 5, 5, 25, 5, 5, 5, 5, 4, 4, 4, 3] := by kernel_rfl
theorem und23 : fTys Tryd.prog 23 = some [3, 3, 3, 3, 3, 3, 4, 4] := by kernel_rfl
theorem und46 : fTys Tryd.prog 46 = some [3, 41, 5, 5, 3, 3] := by kernel_rfl

theorem is_brd {d : Nat} {sv : SV} (h : Is Tryd.prog (d + 2) 27 sv) : ∃ b : Brd, sv = b.sv ∧ b.fit := by
  obtain ⟨l, rfl, g0⟩ := is_struct und27 h
  obtain ⟨a1, l1, rfl, h1, g1⟩ := g0
  obtain ⟨a2, l2, rfl, h2, g2⟩ := g1
  obtain ⟨a3, l3, rfl, h3, g3⟩ := g2
  obtain ⟨a4, l4, rfl, h4, g4⟩ := g3
  obtain ⟨a5, l5, rfl, h5, g5⟩ := g4
  obtain ⟨a6, l6, rfl, h6, g6⟩ := g5
  obtain ⟨a7, l7, rfl, h7, g7⟩ := g6
  obtain ⟨a8, l8, rfl, h8, g8⟩ := g7
  obtain ⟨a9, l9, rfl, h9, g9⟩ := g8
  obtain ⟨a10, l10, rfl, h10, g10⟩ := g9
  obtain ⟨a11, l11, rfl, h11, g11⟩ := g10
  obtain ⟨a12, l12, rfl, h12, g12⟩ := g11
  obtain ⟨a13, l13, rfl, h13, g13⟩ := g12
  obtain ⟨a14, l14, rfl, h14, g14⟩ := g13
  obtain ⟨a15, l15, rfl, h15, g15⟩ := g14
  obtain ⟨a16, l16, rfl, h16, g16⟩ := g15
  obtain ⟨a17, l17, rfl, h17, g17⟩ := g16
  obtain ⟨a18, l18, rfl, h18, g18⟩ := g17
  obtain ⟨a19, l19, rfl, h19, g19⟩ := g18
  obtain ⟨a20, l20, rfl, h20, g20⟩ := g19
  obtain ⟨a21, l21, rfl, h21, g21⟩ := g20
  obtain ⟨a22, l22, rfl, h22, g22⟩ := g21
  obtain ⟨a23, l23, rfl, h23, g23⟩ := g22
  obtain ⟨a24, l24, rfl, h24, g24⟩ := g23
  cases g24
  obtain ⟨n1, rfl, k1⟩ := is_int und3 h1
  obtain ⟨n2, rfl, k2⟩ := is_int und3 h2
  obtain ⟨n3, rfl, k3⟩ := is_int und24 h3
  obtain ⟨n4, rfl⟩ := is_bool und4 h4
  obtain ⟨n5, rfl, k5⟩ := is_int und3 h5
  obtain ⟨n6, rfl, k6⟩ := is_int und3 h6
  obtain ⟨n7, rfl⟩ := is_bool und4 h7
  obtain ⟨n8, rfl, k8⟩ := is_int und5 h8
  obtain ⟨n9, rfl, k9⟩ := is_int und5 h9
  obtain ⟨n10, rfl, k10⟩ := is_int und5 h10
  obtain ⟨n11, rfl, k11⟩ := is_int und5 h11
  obtain ⟨n12, rfl, k12⟩ := is_int und5 h12
  obtain ⟨n13, rfl, k13⟩ := is_int und3 h13
  obtain ⟨n14, rfl, k14⟩ := is_int und5 h14
  obtain ⟨n15, rfl, k15⟩ := is_int und5 h15
  obtain ⟨n16, rfl, k16, q16⟩ := is_arr und25 und5 h16
  obtain ⟨n17, rfl, k17⟩ := is_int und5 h17
  obtain ⟨n18, rfl, k18⟩ := is_int und5 h18
  obtain ⟨n19, rfl, k19⟩ := is_int und5 h19
  obtain ⟨n20, rfl, k20⟩ := is_int und5 h20
  obtain ⟨n21, rfl⟩ := is_bool und4 h21
  obtain ⟨n22, rfl⟩ := is_bool und4 h22
  obtain ⟨n23, rfl⟩ := is_bool und4 h23
  obtain ⟨n24, rfl, k24⟩ := is_int und3 h24
  exact ⟨⟨n1, n2, n3, n4, n5, n6, n7, n8, n9, n10, n11, n12, n13, n14, n15, n16, n17, n18, n19, n20, n21, n22, n23, n24⟩, rfl,
    { kind := inK_i64 k1, sub := inK_i64 k2, hard := inK_u8 k3, prg := inK_i64 k5, chr := inK_i64 k6, shift := inK_u8 k8, ctrl := inK_u8 k9, chrA := inK_u8 k10, chrB := inK_u8 k11, prgR := inK_u8 k12, last := inK_i64 k13,
      latch := inK_u8 k14, sel := inK_u8 k15, rsL := k16, rs := fun x hx => inK_u8 (q16 x hx), turn := inK_u8 k17, guard := inK_u8 k18, iLatch := inK_u8 k19, iCount := inK_u8 k20, epoch := inK_i64 k24 }⟩

theorem is_shape {d : Nat} {sv : SV} (h : Is Tryd.prog (d + 2) 23 sv) : ∃ b : Shape, sv = b.sv ∧ b.fit := by
  obtain ⟨l, rfl, g0⟩ := is_struct und23 h
  obtain ⟨a1, l1, rfl, h1, g1⟩ := g0
  obtain ⟨a2, l2, rfl, h2, g2⟩ := g1
  obtain ⟨a3, l3, rfl, h3, g3⟩ := g2
  obtain ⟨a4, l4, rfl, h4, g4⟩ := g3
  obtain ⟨a5, l5, rfl, h5, g5⟩ := g4
  obtain ⟨a6, l6, rfl, h6, g6⟩ := g5
  obtain ⟨a7, l7, rfl, h7, g7⟩ := g6
  obtain ⟨a8, l8, rfl, h8, g8⟩ := g7
  cases g8
  obtain ⟨n1, rfl, k1⟩ := is_int und3 h1
  obtain ⟨n2, rfl, k2⟩ := is_int und3 h2
  obtain ⟨n3, rfl, k3⟩ := is_int und3 h3
  obtain ⟨n4, rfl, k4⟩ := is_int und3 h4
  obtain ⟨n5, rfl, k5⟩ := is_int und3 h5
  obtain ⟨n6, rfl, k6⟩ := is_int und3 h6
  obtain ⟨n7, rfl⟩ := is_bool und4 h7
  obtain ⟨n8, rfl⟩ := is_bool und4 h8
  exact ⟨⟨n1, n2, n3, n4, n5, n6, n7, n8⟩, rfl, ⟨inK_i64 k1, inK_i64 k2, inK_i64 k3, inK_i64 k4, inK_i64 k5, inK_i64 k6⟩⟩

theorem isL1 {P : Program} {d : Nat} {t : TypeId} {l : List SV} (h : IsL P d [t] l) : ∃ a, l = [a] ∧ Is P d t a := by
  obtain ⟨a, r, rfl, h1, h2⟩ := h
  cases h2
  exact ⟨a, rfl, h1⟩
theorem isL2 {P : Program} {d : Nat} {t t' : TypeId} {l : List SV} (h : IsL P d [t, t'] l) : ∃ a b, l = [a, b] ∧ Is P d t a ∧ Is P d t' b := by
  obtain ⟨a, r, rfl, h1, h2⟩ := h
  obtain ⟨b, rfl, h3⟩ := isL1 h2
  exact ⟨a, b, rfl, h1, h3⟩
theorem isL3 {P : Program} {d : Nat} {t t' t'' : TypeId} {l : List SV} (h : IsL P d [t, t', t''] l) : ∃ a b c, l = [a, b, c] ∧ Is P d t a ∧ Is P d t' b ∧ Is P d t'' c := by
  obtain ⟨a, r, rfl, h1, h2⟩ := h
  obtain ⟨b, c, rfl, h3, h4⟩ := isL2 h2
  exact ⟨a, b, c, rfl, h1, h3, h4⟩
end Go.Sx

namespace Go.Sx
open Go.Proofs Go.Proofs.YtiejpbhkchcmkaaDoor
set_option linter.unusedVariables false
set_option linter.unusedSimpArgs false
set_option maxRecDepth 100000
theorem gN : Tryd.prog.globalNamed "tandem/mapper.subs" = some 0 := by kernel_rfl
theorem gT : (Tryd.prog.globals[0]?).map (·.type) = some 25 := by kernel_rfl
theorem cells25 : Tryd.prog.cellsOf 25 = 8 := by kernel_rfl
theorem cells5 : Tryd.prog.cellsOf 5 = 1 := by kernel_rfl
def subsC : Array Value := (subsT.map fun z => Value.int .u8 z).toArray
theorem tab_of {W : World} (h : laidMet Tryd.prog [("tandem/mapper.subs", Rows.laid_tandem_mapper_subs)] W) : Lib.TabIs Tryd.prog W "tandem/mapper.subs" .u8 subsT :=
  Lib.tabIs_of_head (rest := []) gN gT und25 und5 cells5 cells25 h
theorem EB_glob {gam : List (Nat × Con)} {loop : List (Nat × Nat × LCon)} {W : World} (h : laidMet Tryd.prog [("tandem/mapper.subs", Rows.laid_tandem_mapper_subs)] W) : Glob (EB gam loop) (S0 W) := by
  intro g t e
  have hT := tab_of h
  have h0 : g = 0 ∧ t = .arr .u8 8 subsT := by
    cases g with
    | zero => simp [EB] at e; exact ⟨rfl, e.symm⟩
    | succ n => simp [EB] at e
  obtain ⟨rfl, rfl⟩ := h0
  refine ⟨subsT.map (.int .u8), rfl, ⟨rfl, rfl⟩, ?_, fun j v hj => ?_⟩
  · exact block_lt_of_cell (hT.cell gN 0 (by decide))
  · have hlt : j < subsT.length := by
      rcases Nat.lt_or_ge j subsT.length with h | h
      · exact h
      · rw [List.getElem?_eq_none (by simpa using h)] at hj; simp at hj
    have := hT.cell gN j hlt
    have ea : Addr.add ⟨0, 0, none⟩ j = ⟨0, j, none⟩ := by unfold Addr.add; simp; omega
    show W.cell? (Addr.add ⟨0, 0, none⟩ j) = some v
    rw [ea, this]
    rw [List.getElem?_map, List.getElem?_eq_getElem hlt] at hj
    simp only [Option.map_some, Option.some.injEq] at hj
    rw [← hj, List.getD_eq_getElem?_getD, List.getElem?_eq_getElem hlt]; rfl

noncomputable def laidWorld (os : Os) : World :=
  { World.holding Tryd.prog os ⟨#[], #[], []⟩ with heap := (World.holding Tryd.prog os ⟨#[], #[], []⟩).heap.modify 0 fun
      | .cells _ t frozen => .cells subsC t frozen
      | o => o }
theorem laidWorld_row (os : Os) (args : Array Value) : ((laidWorld os).forCall (fun _ _ => 0) ⟨#[], args, []⟩).memory.heap[0]? = some (.cells subsC 25 (0, 0)) := by kernel_rfl
theorem laidWorld_met (os : Os) (args : Array Value) : laidMet Tryd.prog [("tandem/mapper.subs", Rows.laid_tandem_mapper_subs)] ((laidWorld os).forCall (fun _ _ => 0) ⟨#[], args, []⟩).memory :=
  ⟨_, ⟨0, 25, subsC, 8, [], [], by kernel_rfl, by kernel_rfl, by kernel_rfl, by kernel_rfl, rfl, rfl⟩, by decide, fun b off h => by
    have h' : MemPlace.cell b off ∈ [MemPlace.cell 0 0, .cell 0 1, .cell 0 2, .cell 0 3, .cell 0 4, .cell 0 5, .cell 0 6, .cell 0 7] := h
    have hb : b = 0 := by
      simp at h'
      omega
    subst hb
    refine ⟨⟨_, _, laidWorld_row os args⟩, fun u v hc => ?_⟩
    simp only [World.cell?, laidWorld_row os args] at hc
    simp at h'
    rcases h' with rfl | rfl | rfl | rfl | rfl | rfl | rfl | rfl <;> simp [subsC, subsT] at hc⟩
end Go.Sx

namespace Go.Sx
open Go.Proofs
set_option linter.unusedVariables false
set_option linter.unusedSimpArgs false
set_option maxRecDepth 100000
theorem cart_fit {x : Shape} (h : x.fit) : x.cart.fit := by
  refine ⟨?_, ?_, ?_, ?_⟩ <;> simp only [Shape.cart] <;> omega
theorem w3 (svs : List SV) (h : IsL Tryd.prog 3 [23] svs) : Chk (bodyK (EB gX noLoop) (callN (EB gX noLoop) 1) 3 Tryd.f3 svs [] (fun x _ => isTrue x)) := by
  obtain ⟨a, rfl, h1⟩ := isL1 h
  obtain ⟨x, rfl, hx⟩ := is_shape h1
  constructor
  rw [t3]
  exact ⟨⟨hx⟩, ⟨cart_fit hx⟩, ⟨hx⟩, ⟨cart_fit hx⟩, by simp⟩
end Go.Sx

namespace Go.Sx
open Go.Proofs
set_option linter.unusedVariables false
set_option linter.unusedSimpArgs false
set_option maxRecDepth 100000
def awk : Crt := ⟨1, 0, 0, false, false, false, 0, 0, 0, 0, 0, 0, 0, 0, 0, 16384, 8192⟩
theorem awk_new : newB awk = (brdN 0 0 0 false 2 8 false, 0) := by rfl
theorem awk_fit : awk.fit := by refine ⟨?_, ?_, ?_, ?_⟩ <;> simp only [awk] <;> omega
theorem u8_0 : u8 0 := ⟨by omega, by omega⟩
theorem i64_0 : i64 0 := ⟨by omega, by omega⟩
theorem brdN_fit {m s hard : Int} {work : Bool} {prg chr : Int} {cram : Bool} (hm : i64 m) (hs : i64 s) (h1 : u8 hard) (h2 : i64 prg) (h3 : i64 chr) : (brdN m s hard work prg chr cram).fit := by
  refine { kind := hm, sub := hs, hard := h1, prg := h2, chr := h3, shift := ?_, ctrl := ?_, chrA := u8_0, chrB := u8_0, prgR := u8_0, last := ?_, latch := u8_0, sel := u8_0, rsL := ?_, rs := ?_, turn := u8_0, guard := ?_, iLatch := u8_0, iCount := u8_0, epoch := i64_0 }
  · show u8 (if m = 1 then 16 else 0); unfold u8; split <;> omega
  · show u8 (if m = 1 then 12 else 0); unfold u8; split <;> omega
  · show i64 (if m = 1 then -2 else 0); unfold i64; split <;> omega
  · show (if m = 4 then [0, 2, 4, 5, 6, 7, 0, 1] else [0, 0, 0, 0, 0, 0, 0, 0] : List Int).length = 8; split <;> rfl
  · show ∀ x ∈ (if m = 4 then [0, 2, 4, 5, 6, 7, 0, 1] else [0, 0, 0, 0, 0, 0, 0, 0] : List Int), u8 x
    intro x hx
    unfold u8
    split at hx <;> simp at hx <;> omega
  · show u8 (if m = 4 then 128 else 0); unfold u8; split <;> omega
theorem brdN_valid {m s hard : Int} {work : Bool} {prg chr : Int} {cram : Bool} (hl : listB m s = true) (hz : (brdN m s hard work prg chr cram).sized = true) : (brdN m s hard work prg chr cram).valid = true := by
  have hk := kinds (b := brdN m s hard work prg chr cram) hl
  rw [valid_of hl hz]
  change m = 0 ∨ m = 1 ∨ m = 2 ∨ m = 3 ∨ m = 4 ∨ m = 7 at hk
  have e1 : iand .u8 0 56 = 0 := by decide +kernel
  have e2 : iand .u8 128 63 = 0 := by decide +kernel
  rcases hk with rfl | rfl | rfl | rfl | rfl | rfl <;> first | rfl | (unfold Brd.regs brdN Brd.m1; simp [e1, e2])
theorem awk_board : (brdN 0 0 0 false 2 8 false).fit ∧ (brdN 0 0 0 false 2 8 false).valid = true :=
  ⟨brdN_fit i64_0 i64_0 u8_0 ⟨by omega, by omega⟩ ⟨by omega, by omega⟩, brdN_valid rfl rfl⟩
def onN0 (l : List SV) : Option SV := match l with
  | [] => some (.b true)
  | _ => none
def cAwk : Con := .pure pre0 onN0
theorem p24 (u : Unit) : Chk (bodyK (EB gX noLoop) (callN (EB gX noLoop) 1) 24 Tryd.f24 [] [] (fun x _ => onB (x.cl 0) (x = .b true))) := by
  constructor
  rw [t24 u]
  have e := awk_new
  have f := awk_fit
  unfold awk at e f
  rw [e]
  exact ⟨⟨rfl, by omega, by omega⟩, ⟨rfl, by omega, by omega⟩, ⟨f⟩, ⟨f⟩, ⟨awk_board.1⟩, by rw [awk_board.2]; rfl⟩
theorem con24 : ConOK (EB gX noLoop) 24 cAwk := by
  refine con_pure (EB_ok _ _) gX_ok (noLoops _) 1 Tryd.func24 fun args v hv hp => ?_
  unfold onN0 at hv
  split at hv
  · simp at hv; subst hv; exact (p24 ()).ok
  · simp at hv
def gY : List (Nat × Con) := (24, cAwk) :: gX
theorem gY_ok : GamOK (EB gY noLoop) := gam_ok rfl ⟨con24.of, con19.of, con20.of, con21.of, con41.of, con22.of, con23.of, con50.of, con51.of, con52.of, con53.of, trivial⟩

theorem t4 (b : Brd) : bodyK (EB gY noLoop) (callN (EB gY noLoop) 1) 4 Tryd.f4 [b.sv] [] (fun y _ => isTrue y) = (
  Chk b.fit ∧ Chk b.fit ∧ br (b.valid == b.valid && true) (True ∧ (b.valid == b.valid && true) = true) ((b.valid == b.valid && false) = true)) := by kernel_rfl
theorem w4 (svs : List SV) (h : IsL Tryd.prog 3 [27] svs) : Chk (bodyK (EB gY noLoop) (callN (EB gY noLoop) 1) 4 Tryd.f4 svs [] (fun x _ => isTrue x)) := by
  obtain ⟨a, rfl, h1⟩ := isL1 h
  obtain ⟨b, rfl, hb⟩ := is_brd h1
  constructor
  rw [t4]
  refine ⟨⟨hb⟩, ⟨hb⟩, ?_⟩
  cases b.valid <;> simp [br]

end Go.Sx
