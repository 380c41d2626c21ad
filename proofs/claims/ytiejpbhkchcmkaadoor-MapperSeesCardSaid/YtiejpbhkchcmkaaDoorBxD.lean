/-
  SxP1: the scanline counter goes round: plain laws.
  SxB11: one scanline clock: trees.
  SxB12: one clock: contracts; loops of clocks: one round.
  SxB13: loops of clocks: contracts.
  SxB14: a board's clocks: trees.
  SxB15: a board's clocks: contracts; Clock, ToIrq: trees.
  SxB16: Clock: contract; ToIrq: loops' contracts, trees.
  SxB17: ToIrq: contracts; Clocks: tree.
  SxB18: Clocks returns true.
-/
import Derived.Test.YtiejpbhkchcmkaaDoorBxC
namespace Go.Sx
set_option linter.unusedVariables false
set_option linter.unusedSimpArgs false

/-- Count, reload, asks. -/
structure Cnt where
  c : Int
  l : Bool
  q : Bool
/-- Does this clock ask? -/
def Cnt.fire (L : Int) (four on : Bool) (s : Cnt) : Bool := decide ((if s.c = 0 ∨ s.l = true then L else s.c - 1) = 0) && on && (!four || s.c != 0 || s.l)
def Cnt.next (L : Int) (four on : Bool) (s : Cnt) : Cnt := ⟨if s.c = 0 ∨ s.l = true then L else s.c - 1, false, s.q || s.fire L four on⟩
def Cnt.it (L : Int) (four on : Bool) : Nat → Cnt → Cnt
  | 0, s => s
  | n + 1, s => Cnt.it L four on n (s.next L four on)

section
variable {L : Int} {four on : Bool}

theorem it_add : ∀ (m n : Nat) (s : Cnt), Cnt.it L four on (m + n) s = Cnt.it L four on n (Cnt.it L four on m s)
  | 0, n, s => by simp [Cnt.it]
  | m + 1, n, s => by rw [Nat.succ_add]; simp only [Cnt.it]; exact it_add m n _
theorem it_succ (n : Nat) (s : Cnt) : Cnt.it L four on (n + 1) s = (Cnt.it L four on n s).next L four on := by rw [it_add]; rfl

/-- Down to zero. -/
theorem it_down : ∀ (n : Nat) (s : Cnt), s.l = false → (n : Int) ≤ s.c → (Cnt.it L four on n s).c = s.c - n ∧ (Cnt.it L four on n s).l = false
  | 0, s, h, hn => by simp [Cnt.it, h]
  | n + 1, s, h, hn => by
    obtain ⟨i1, i2⟩ := it_down n s h (by omega)
    rw [it_succ]
    unfold Cnt.next
    rw [if_neg (by rw [i1, i2]; simp; omega), i1]
    exact ⟨by simp only; omega, rfl⟩

theorem it_range (hL : 0 ≤ L) : ∀ (n : Nat) (s : Cnt), 0 ≤ s.c → 0 ≤ (Cnt.it L four on n s).c
  | 0, s, h => h
  | n + 1, s, h => by
    have i := it_range hL n s h
    rw [it_succ]
    unfold Cnt.next
    simp only
    split
    · exact hL
    · rename_i hc; omega

/-- Once round. -/
theorem it_round (hL : 0 ≤ L) (s : Cnt) (h : s.l = false) (h0 : 0 ≤ s.c) (h1 : s.c ≤ L) : (Cnt.it L four on (L.toNat + 1) s).c = s.c ∧ (Cnt.it L four on (L.toNat + 1) s).l = false := by
  have e : L.toNat + 1 = s.c.toNat + (1 + (L - s.c).toNat) := by omega
  obtain ⟨d1, d2⟩ := it_down (L := L) (four := four) (on := on) s.c.toNat s h (by omega)
  rw [e, it_add, it_add]
  generalize Cnt.it L four on s.c.toNat s = x at *
  have u : Cnt.it L four on 1 x = x.next L four on := rfl
  have hu : (x.next L four on).c = L ∧ (x.next L four on).l = false := by
    unfold Cnt.next
    rw [if_pos (.inl (by omega))]
    exact ⟨rfl, rfl⟩
  rw [u]
  obtain ⟨f1, f2⟩ := it_down (L := L) (four := four) (on := on) (L - s.c).toNat (x.next L four on) hu.2 (by omega)
  exact ⟨by omega, f2⟩

def Cnt.sett (L : Int) (s : Cnt) : Prop := s.l = false ∧ 0 ≤ s.c ∧ s.c ≤ L
theorem sett_next (hL : 0 ≤ L) {s : Cnt} (h : s.sett L) : (s.next L four on).sett L := by
  obtain ⟨h1, h2, h3⟩ := h
  unfold Cnt.sett Cnt.next
  refine ⟨rfl, ?_, ?_⟩ <;> simp only <;> split <;> omega
theorem sett_it (hL : 0 ≤ L) : ∀ (n : Nat) {s : Cnt}, s.sett L → (Cnt.it L four on n s).sett L
  | 0, s, h => h
  | n + 1, s, h => sett_it hL n (sett_next hL h)

/-- Settled by the 257th clock. -/
theorem settles (hL : 0 ≤ L) (s : Cnt) (h0 : 0 ≤ s.c) (h1 : s.c ≤ 255) (n : Nat) (hn : 257 ≤ n) : (Cnt.it L four on n s).sett L := by
  have key : ∃ T : Nat, T ≤ 257 ∧ (Cnt.it L four on T s).sett L := by
    by_cases c : s.c = 0 ∨ s.l = true
    · refine ⟨1, by omega, ?_⟩
      show (s.next L four on).sett L
      unfold Cnt.sett Cnt.next
      rw [if_pos c]
      exact ⟨rfl, hL, Int.le_refl _⟩
    · have c1 : s.c ≠ 0 := fun e => c (.inl e)
      have c2 : s.l = false := by
        cases e : s.l
        · rfl
        · exact (c (.inr e)).elim
      obtain ⟨d1, d2⟩ := it_down (L := L) (four := four) (on := on) s.c.toNat s c2 (by omega)
      refine ⟨s.c.toNat + 1, by omega, ?_⟩
      rw [it_succ]
      unfold Cnt.sett Cnt.next
      rw [if_pos (.inl (by omega))]
      exact ⟨rfl, hL, Int.le_refl _⟩
  obtain ⟨T, t1, t2⟩ := key
  have e : n = T + (n - T) := by omega
  rw [e, it_add]
  exact sett_it hL _ t2

theorem q_next (s : Cnt) (h : s.q = true) : (s.next L four on).q = true := by unfold Cnt.next; rw [h]; rfl
theorem q_mono : ∀ (n : Nat) (s : Cnt), s.q = true → (Cnt.it L four on n s).q = true
  | 0, s, h => h
  | n + 1, s, h => q_mono n _ (q_next s h)

theorem fire_core {s t : Cnt} (h1 : s.c = t.c) (h2 : s.l = t.l) : s.fire L four on = t.fire L four on := by unfold Cnt.fire; rw [h1, h2]

/-- Behind 514 clocks one round more changes nothing. -/
theorem it_period (hL : 0 ≤ L) (hL2 : L ≤ 255) (s : Cnt) (h0 : 0 ≤ s.c) (h1 : s.c ≤ 255) (t : Nat) (ht : 514 ≤ t) : Cnt.it L four on (t + (L.toNat + 1)) s = Cnt.it L four on t s := by
  have hs : ∀ n, 257 ≤ n → (Cnt.it L four on n s).sett L := settles hL s h0 h1
  have q : ∀ k : Nat, k ≤ L.toNat + 1 → (Cnt.it L four on (t + k) s).q = (Cnt.it L four on t s).q := by
    intro k
    induction k with
    | zero => intro _; rfl
    | succ k ih =>
      intro hk
      have ih := ih (by omega)
      rw [show t + (k + 1) = (t + k) + 1 by omega, it_succ]
      show ((Cnt.it L four on (t + k) s).q || (Cnt.it L four on (t + k) s).fire L four on) = _
      rw [ih]
      cases hf : (Cnt.it L four on (t + k) s).fire L four on with
      | false => simp
      | true =>
        -- it has asked one round ago
        have hb := hs (t + k - (L.toNat + 1)) (by omega)
        obtain ⟨r1, r2⟩ := it_round (four := four) (on := on) hL _ hb.1 hb.2.1 hb.2.2
        rw [← it_add, show t + k - (L.toNat + 1) + (L.toNat + 1) = t + k by omega] at r1 r2
        have hf2 : (Cnt.it L four on (t + k - (L.toNat + 1)) s).fire L four on = true := by
          rw [← hf]; exact fire_core r1.symm (by rw [hb.1, r2])
        have hq : (Cnt.it L four on (t + k - (L.toNat + 1) + 1) s).q = true := by
          rw [it_succ]
          show ((Cnt.it L four on (t + k - (L.toNat + 1)) s).q || (Cnt.it L four on (t + k - (L.toNat + 1)) s).fire L four on) = true
          rw [hf2]; simp
        have := q_mono (L := L) (four := four) (on := on) (t - (t + k - (L.toNat + 1) + 1)) _ hq
        rw [← it_add, show t + k - (L.toNat + 1) + 1 + (t - (t + k - (L.toNat + 1) + 1)) = t by omega] at this
        rw [this]; rfl
  have ht2 := hs t (by omega)
  obtain ⟨r1, r2⟩ := it_round (four := four) (on := on) hL _ ht2.1 ht2.2.1 ht2.2.2
  rw [← it_add] at r1 r2
  have r3 := q (L.toNat + 1) (Nat.le_refl _)
  have ext : ∀ a b : Cnt, a.c = b.c → a.l = b.l → a.q = b.q → a = b := by
    intro a b h1 h2 h3; cases a; cases b; simp_all
  exact ext _ _ r1 (by rw [r2, ht2.1]) r3

theorem it_periods (hL : 0 ≤ L) (hL2 : L ≤ 255) (s : Cnt) (h0 : 0 ≤ s.c) (h1 : s.c ≤ 255) (t : Nat) (ht : 514 ≤ t) : ∀ k : Nat, Cnt.it L four on (t + k * (L.toNat + 1)) s = Cnt.it L four on t s
  | 0 => by simp
  | k + 1 => by
    rw [show t + (k + 1) * (L.toNat + 1) = (t + k * (L.toNat + 1)) + (L.toNat + 1) by rw [Nat.succ_mul]; omega, it_period hL hL2 s h0 h1 _ (by omega), it_periods hL hL2 s h0 h1 t ht k]

/-- A great number of clocks, reduced. -/
theorem it_reduce (hL : 0 ≤ L) (hL2 : L ≤ 255) (s : Cnt) (h0 : 0 ≤ s.c) (h1 : s.c ≤ 255) (n t : Nat) (ht : 514 ≤ t) (hn : t ≤ n) : Cnt.it L four on (t + (n - t) % (L.toNat + 1)) s = Cnt.it L four on n s := by
  have e : n = (t + (n - t) % (L.toNat + 1)) + ((n - t) / (L.toNat + 1)) * (L.toNat + 1) := by
    have := Nat.div_add_mod (n - t) (L.toNat + 1)
    rw [Nat.mul_comm] at this
    omega
  conv => rhs; rw [e]
  rw [it_periods hL hL2 s h0 h1 _ (by omega)]

/-- What has not asked by the 514th clock never asks. -/
theorem it_never (hL : 0 ≤ L) (hL2 : L ≤ 255) (s : Cnt) (h0 : 0 ≤ s.c) (h1 : s.c ≤ 255) (t : Nat) (ht : 514 ≤ t) : (Cnt.it L four on t s).q = (Cnt.it L four on 514 s).q := by
  rw [← it_reduce hL hL2 s h0 h1 t 514 (by omega) ht]
  cases hq : (Cnt.it L four on 514 s).q with
  | true => rw [it_add]; exact q_mono _ _ hq
  | false =>
    -- within one round of a time at which a round changes nothing
    cases hq2 : (Cnt.it L four on (514 + (t - 514) % (L.toNat + 1)) s).q with
    | false => rfl
    | true =>
      have hlt : (t - 514) % (L.toNat + 1) < L.toNat + 1 := Nat.mod_lt _ (by omega)
      have := q_mono (L := L) (four := four) (on := on) (L.toNat + 1 - (t - 514) % (L.toNat + 1)) _ hq2
      rw [← it_add, show 514 + (t - 514) % (L.toNat + 1) + (L.toNat + 1 - (t - 514) % (L.toNat + 1)) = 514 + (L.toNat + 1) by omega, it_period hL hL2 s h0 h1 514 (by omega), hq] at this
      simp at this
end
end Go.Sx

namespace Go.Sx
open Go.Proofs
set_option linter.unusedVariables false
set_option linter.unusedSimpArgs false
set_option maxRecDepth 100000
def Brd.cnt (b : Brd) : Cnt := ⟨b.iCount, b.iLoad, b.irq⟩
def Brd.withC (b : Brd) (s : Cnt) : Brd := { b with iCount := s.c, iLoad := s.l, irq := s.q }
def Brd.pulse (b : Brd) : Brd := b.withC (b.cnt.next b.iLatch (b.sub == 4) b.iOn)
def Brd.pulses (b : Brd) (n : Nat) : Brd := b.withC (Cnt.it b.iLatch (b.sub == 4) b.iOn n b.cnt)
/-- A board's own struct, behind a pointer. -/
def ki (b : Brd) : SV := .agg (.cons (.agg (.cons b.sv .nil)) .nil)
def kiOf : SV → Option Brd
  | .agg (.cons (.agg (.cons x .nil)) .nil) => brdOf x
  | _ => none
theorem kiOf_some {x : SV} {b : Brd} (h : kiOf x = some b) : x = ki b := by
  unfold kiOf at h
  split at h
  · rw [brdOf_some h]; rfl
  · simp at h
def onB1 (Z : Brd → Prop) (x : SV) : Prop := match brdOf x with
  | some b => Z b
  | none => False
def onK (Z : SV → Brd → Prop) (x : SV) (M : Mem) : Prop := match M with
  | m :: _ => (match kiOf m with
    | some b => Z x b
    | none => False)
  | [] => False

theorem t56 (b : Brd) (Z : Brd → Prop) : bodyK (EB gY noLoop) (callN (EB gY noLoop) 1) 56 Tryd.f56 [b.sv] [] (fun y _ => onB (y.cl 0) (onB1 Z y)) = (
  br (b.iCount == 0 || b.iLoad)
  (br (b.sub == 4 && b.iCount == 0 && !b.iLoad) (Z (Brd.mk b.kind b.sub b.hard b.work b.prg b.chr b.cram b.shift b.ctrl b.chrA b.chrB b.prgR b.last b.latch b.sel b.rs b.turn b.guard b.iLatch b.iLatch false b.iOn b.irq b.epoch))
    (br (b.iLatch == 0 && b.iOn) (Z (Brd.mk b.kind b.sub b.hard b.work b.prg b.chr b.cram b.shift b.ctrl b.chrA b.chrB b.prgR b.last b.latch b.sel b.rs b.turn b.guard b.iLatch b.iLatch false b.iOn true b.epoch)) (Z (Brd.mk b.kind b.sub b.hard b.work b.prg b.chr b.cram b.shift b.ctrl b.chrA b.chrB b.prgR b.last b.latch b.sel b.rs b.turn b.guard b.iLatch b.iLatch false b.iOn b.irq b.epoch))))
  (br (b.sub == 4 && b.iCount == 0 && !b.iLoad) (Z (Brd.mk b.kind b.sub b.hard b.work b.prg b.chr b.cram b.shift b.ctrl b.chrA b.chrB b.prgR b.last b.latch b.sel b.rs b.turn b.guard b.iLatch (IntKind.u8.wrap (b.iCount - 1)) false b.iOn b.irq b.epoch))
    (br (IntKind.u8.wrap (b.iCount - 1) == 0 && b.iOn) (Z (Brd.mk b.kind b.sub b.hard b.work b.prg b.chr b.cram b.shift b.ctrl b.chrA b.chrB b.prgR b.last b.latch b.sel b.rs b.turn b.guard b.iLatch (IntKind.u8.wrap (b.iCount - 1)) false b.iOn true b.epoch))
      (Z (Brd.mk b.kind b.sub b.hard b.work b.prg b.chr b.cram b.shift b.ctrl b.chrA b.chrB b.prgR b.last b.latch b.sel b.rs b.turn b.guard b.iLatch (IntKind.u8.wrap (b.iCount - 1)) false b.iOn b.irq b.epoch))))) := by kernel_rfl
theorem t131 (b : Brd) (Z : SV → Brd → Prop) : (bodyK (EB gY noLoop) (callN (EB gY noLoop) 1) 131 Tryd.f131 [.ptr 0 []] [ki b] (onK Z)) = (
  br (b.iCount == 0 || b.iLoad)
  (br (b.iLatch == 0 && b.iOn && (b.sub != 4 || (b.iCount != 0 || b.iLoad))) (Z (SV.tup SVs.nil) (Brd.mk b.kind b.sub b.hard b.work b.prg b.chr b.cram b.shift b.ctrl b.chrA b.chrB b.prgR b.last b.latch b.sel b.rs b.turn b.guard b.iLatch b.iLatch false b.iOn true b.epoch))
    (Z (SV.tup SVs.nil) (Brd.mk b.kind b.sub b.hard b.work b.prg b.chr b.cram b.shift b.ctrl b.chrA b.chrB b.prgR b.last b.latch b.sel b.rs b.turn b.guard b.iLatch b.iLatch false b.iOn b.irq b.epoch)))
  (br (IntKind.u8.wrap (b.iCount - 1) == 0 && b.iOn && (b.sub != 4 || (b.iCount != 0 || b.iLoad))) (Z (SV.tup SVs.nil) (Brd.mk b.kind b.sub b.hard b.work b.prg b.chr b.cram b.shift b.ctrl b.chrA b.chrB b.prgR b.last b.latch b.sel b.rs b.turn b.guard b.iLatch (IntKind.u8.wrap (b.iCount - 1)) false b.iOn true b.epoch))
    (Z (SV.tup SVs.nil) (Brd.mk b.kind b.sub b.hard b.work b.prg b.chr b.cram b.shift b.ctrl b.chrA b.chrB b.prgR b.last b.latch b.sel b.rs b.turn b.guard b.iLatch (IntKind.u8.wrap (b.iCount - 1)) false b.iOn b.irq b.epoch)))) := by kernel_rfl

end Go.Sx

namespace Go.Sx
open Go.Proofs
set_option linter.unusedVariables false
set_option linter.unusedSimpArgs false
set_option maxRecDepth 100000
/-- A method of a board's struct. -/
def mthD {α : Type} (dec : List SV → Option α) (p : Brd → α → Prop) (F : Brd → α → SV) (G : Brd → α → Brd) (t : SV) (args : List SV) (K : SV → SV → Prop) : Prop := match kiOf t, dec args with
  | some b, some a => Chk (p b a) ∧ K (F b a) (ki (G b a))
  | _, _ => False
theorem mthD_det {α : Type} {dec : List SV → Option α} {p : Brd → α → Prop} {F : Brd → α → SV} {G : Brd → α → Brd} {t : SV} {args : List SV} : Det2 (mthD dec p F G t args) := by
  unfold mthD
  split
  · exact d2_and d2_K
  · exact d2_F
theorem onK_out {Z : SV → Brd → Prop} {x : SV} {M : Mem} (h : onK Z x M) : ∃ b rest, M = ki b :: rest ∧ Z x b := by
  unfold onK at h
  split at h
  · split at h
    · rename_i hb; exact ⟨_, _, by rw [kiOf_some hb], h⟩
    · exact h.elim
  · exact h.elim
theorem EBmth {gam : List (Nat × Con)} {loop : List (Nat × Nat × LCon)} (hg : GamOK (EB gam loop)) (hlo : LoopsOK (EB gam loop)) (n : Nat) {f : FuncId} {fn : Func} (hfn : Tryd.prog.funcs[f]? = some fn) {α : Type} {dec : List SV → Option α}
    {enc : α → List SV} (hd : ∀ l a, dec l = some a → l = enc a) {p : Brd → α → Prop} {F : Brd → α → SV} {G : Brd → α → Brd} (hF : ∀ b a, (F b a).cl 0 = true)
    (h : ∀ b a, p b a → Chk (bodyK (EB gam loop) (callN (EB gam loop) n) f fn (.ptr 0 [] :: enc a) [ki b] (onK fun x b' => x = F b a ∧ b' = G b a))) : ConOK (EB gam loop) f (.mth (mthD dec p F G)) := by
  refine con_mthQ (EB_ok gam loop) hg hlo n hfn (fun t args => mthD_det) fun t args K hp => ?_
  unfold mthD at hp
  split at hp
  · rename_i b a hb ha
    obtain ⟨hp1, hp2⟩ := hp
    rw [kiOf_some hb, hd _ _ ha]
    refine ⟨_, fun r M hq => ?_, (h b a hp1.ok).ok⟩
    obtain ⟨b', rest, e1, rfl, rfl⟩ := onK_out hq
    exact ⟨_, rest, e1, hF b a, rfl, hp2⟩
  · exact hp.elim
def d0 : List SV → Option Unit
  | [] => some ()
  | _ => none
def e0 (_ : Unit) : List SV := []
theorem d0_ok (l : List SV) (x : Unit) (h : d0 l = some x) : l = e0 x := by
  unfold d0 at h; split at h
  · rfl
  · simp at h
def dI : List SV → Option Int
  | [.i .i64 n] => some n
  | _ => none
def eI (n : Int) : List SV := [.i .i64 n]
theorem dI_ok (l : List SV) (x : Int) (h : dI l = some x) : l = eI x := by
  unfold dI at h; split at h
  · simp at h; subst h; rfl
  · simp at h

theorem pulse_fit {b : Brd} (h : b.fit) : b.pulse.fit := by
  have h1 := h.iCount
  have h2 := h.iLatch
  refine { h with iCount := ?_ }
  show u8 (if b.iCount = 0 ∨ b.iLoad = true then b.iLatch else b.iCount - 1)
  unfold u8 at *
  split
  · exact h2
  · rename_i c
    have : b.iCount ≠ 0 := fun e => c (.inl e)
    omega
theorem wrap_u8 {n : Int} (h : 0 ≤ n ∧ n ≤ 255) : IntKind.u8.wrap n = n := by
  have : IntKind.u8.wrap n = n % 256 := by simp [IntKind.wrap, IntKind.signed, IntKind.bits]
  rw [this]; omega
theorem p56 (b : Brd) (h : b.fit) : Chk (bodyK (EB gY noLoop) (callN (EB gY noLoop) 1) 56 Tryd.f56 (eB b) [] (fun y _ => onB (y.cl 0) (onB1 (fun b' => b' = b.pulse) y))) := by
  constructor
  show bodyK (EB gY noLoop) (callN (EB gY noLoop) 1) 56 Tryd.f56 [b.sv] [] (fun y _ => onB (y.cl 0) (onB1 (fun b' => b' = b.pulse) y))
  rw [t56]
  have h1 := h.iCount
  unfold u8 at h1
  unfold Brd.pulse Brd.withC Brd.cnt Cnt.next Cnt.fire
  refine br_in (fun c => ?_) (fun c => ?_)
  · refine br_in (fun d => ?_) (fun d => br_in (fun e => ?_) (fun e => ?_)) <;> congr 1 <;> grind
  · have e0 : IntKind.u8.wrap (b.iCount - 1) = b.iCount - 1 := wrap_u8 (by simp at c; omega)
    rw [e0]
    refine br_in (fun d => ?_) (fun d => br_in (fun e => ?_) (fun e => ?_)) <;> congr 1 <;> grind
theorem onB1_out {b : Brd} {y : SV} (h : onB1 (fun b' => b' = b) y) : y = b.sv := by
  unfold onB1 at h
  split at h
  · rename_i hb; rw [brdOf_some hb, h]
  · exact h.elim
def cPulse : Con := .pure (preD dB Brd.fit) (onD dB fun b => b.pulse.sv)
theorem con56 : ConOK (EB gY noLoop) 56 cPulse := EBconQ (enc := eB) (p := Brd.fit) (F := fun b => b.pulse.sv) (Q := fun b => onB1 (fun b' => b' = b.pulse)) gY_ok (noLoops _) 1 Tryd.func56 dB_ok (fun b y h => onB1_out h) p56
theorem p131 (b : Brd) (u : Unit) (h : b.fit) : Chk (bodyK (EB gY noLoop) (callN (EB gY noLoop) 1) 131 Tryd.f131 (.ptr 0 [] :: e0 u) [ki b] (onK fun x b' => x = .tup .nil ∧ b' = b.pulse)) := by
  constructor
  show bodyK (EB gY noLoop) (callN (EB gY noLoop) 1) 131 Tryd.f131 [.ptr 0 []] [ki b] (onK fun x b' => x = .tup .nil ∧ b' = b.pulse)
  rw [t131]
  have h1 := h.iCount
  unfold u8 at h1
  unfold Brd.pulse Brd.withC Brd.cnt Cnt.next Cnt.fire
  refine br_in (fun c => ?_) (fun c => ?_)
  · refine br_in (fun d => ⟨rfl, ?_⟩) (fun d => ⟨rfl, ?_⟩) <;> congr 1 <;> grind
  · have e0 : IntKind.u8.wrap (b.iCount - 1) = b.iCount - 1 := wrap_u8 (by simp at c; omega)
    rw [e0]
    refine br_in (fun d => ⟨rfl, ?_⟩) (fun d => ⟨rfl, ?_⟩) <;> congr 1 <;> grind
def cPulseM : Con := .mth (mthD d0 (fun b _ => b.fit) (fun _ _ => .tup .nil) (fun b _ => b.pulse))
theorem con131 : ConOK (EB gY noLoop) 131 cPulseM := EBmth (enc := e0) (p := fun b _ => b.fit) (F := fun _ _ => .tup .nil) (G := fun b _ => b.pulse) gY_ok (noLoops _) 1 Tryd.func131 d0_ok (fun _ _ => rfl) p131
def gP : List (Nat × Con) := (56, cPulse) :: (131, cPulseM) :: gY
theorem gP_ok : GamOK (EB gP noLoop) := gam_ok rfl ⟨con56.of, con131.of, con24.of, con19.of, con20.of, con21.of, con41.of, con22.of, con23.of, con50.of, con51.of, con52.of, con53.of, trivial⟩
/-! States at the loops' heads. -/
/-- One round, then N; an end, then X. -/
def oneK (keep : List Tmp) (m : Nat) (N : St → Prop) (X : Kont) : Kont := fun e st' => match normSt keep m st' with
  | some s => (match e with
    | .normal => N s
    | e => X e s)
  | none => False
def sA (n f lim i : Int) (b : Brd) : St := ⟨[(0, .ptr 0 []), (1, .i .i64 n), (4, .i .i64 f), (7, .i .i64 lim), (8, .i .i64 i)], [ki b]⟩
def kA : List Tmp := [0, 1, 4, 7, 8]
def sC (lim i : Int) (b : Brd) : St := ⟨[(0, .ptr 0 []), (24, .i .i64 lim), (25, .i .i64 i)], [ki b]⟩
def kC : List Tmp := [0, 24, 25]
def sD (n i : Int) (b z : Brd) : St := ⟨[(1, .i .i64 n), (2, .ptr 0 []), (4, .ptr 1 []), (5, .i .i64 i)], [b.sv, z.sv]⟩
def kD : List Tmp := [1, 2, 4, 5]

theorem tA (n f lim i : Int) (b : Brd) (N : St → Prop) (X : Kont) : (execC (EB gP noLoop) (callN (EB gP noLoop) 1) 129 Tryd.f129.ntmps (codeL Tryd.f129 2) (sA n f lim i b) (oneK kA 1 N X)) = (
  br (decide (i < lim))
  (Chk b.fit ∧
    N
      (St.mk [(0, SV.ptr 0 []), (1, SV.i IntKind.i64 n), (4, SV.i IntKind.i64 f), (7, SV.i IntKind.i64 lim), (8, SV.i IntKind.i64 (IntKind.i64.wrap (i + 1)))]
        [SV.agg
            (SVs.cons
              (SV.agg
                (SVs.cons
                  (SV.agg
                    (SVs.cons (SV.i IntKind.i64 b.pulse.kind)
                      (SVs.cons (SV.i IntKind.i64 b.pulse.sub)
                        (SVs.cons (SV.i IntKind.u8 b.pulse.hard)
                          (SVs.cons (SV.b b.pulse.work)
                            (SVs.cons (SV.i IntKind.i64 b.pulse.prg)
                              (SVs.cons (SV.i IntKind.i64 b.pulse.chr)
                                (SVs.cons (SV.b b.pulse.cram)
                                  (SVs.cons (SV.i IntKind.u8 b.pulse.shift)
                                    (SVs.cons (SV.i IntKind.u8 b.pulse.ctrl)
                                      (SVs.cons (SV.i IntKind.u8 b.pulse.chrA)
                                        (SVs.cons (SV.i IntKind.u8 b.pulse.chrB)
                                          (SVs.cons (SV.i IntKind.u8 b.pulse.prgR)
                                            (SVs.cons (SV.i IntKind.i64 b.pulse.last)
                                              (SVs.cons (SV.i IntKind.u8 b.pulse.latch)
                                                (SVs.cons (SV.i IntKind.u8 b.pulse.sel)
                                                  (SVs.cons (SV.arr IntKind.u8 8 b.pulse.rs)
                                                    (SVs.cons (SV.i IntKind.u8 b.pulse.turn) (SVs.cons (SV.i IntKind.u8 b.pulse.guard) (SVs.cons (SV.i IntKind.u8 b.pulse.iLatch) (SVs.cons (SV.i IntKind.u8 b.pulse.iCount) (SVs.cons (SV.b b.pulse.iLoad) (SVs.cons (SV.b b.pulse.iOn) (SVs.cons (SV.b b.pulse.irq) (SVs.cons (SV.i IntKind.i64 b.pulse.epoch) SVs.nil)))))))))))))))))))))))))
                  SVs.nil))
              SVs.nil)]))
  (X (Exit.exit 0)
    (St.mk [(0, SV.ptr 0 []), (1, SV.i IntKind.i64 n), (4, SV.i IntKind.i64 f), (7, SV.i IntKind.i64 lim), (8, SV.i IntKind.i64 i)]
      [SV.agg
          (SVs.cons
            (SV.agg
              (SVs.cons
                (SV.agg
                  (SVs.cons (SV.i IntKind.i64 b.kind)
                    (SVs.cons (SV.i IntKind.i64 b.sub)
                      (SVs.cons (SV.i IntKind.u8 b.hard)
                        (SVs.cons (SV.b b.work)
                          (SVs.cons (SV.i IntKind.i64 b.prg)
                            (SVs.cons (SV.i IntKind.i64 b.chr)
                              (SVs.cons (SV.b b.cram)
                                (SVs.cons (SV.i IntKind.u8 b.shift)
                                  (SVs.cons (SV.i IntKind.u8 b.ctrl)
                                    (SVs.cons (SV.i IntKind.u8 b.chrA)
                                      (SVs.cons (SV.i IntKind.u8 b.chrB)
                                        (SVs.cons (SV.i IntKind.u8 b.prgR)
                                          (SVs.cons (SV.i IntKind.i64 b.last)
                                            (SVs.cons (SV.i IntKind.u8 b.latch)
                                              (SVs.cons (SV.i IntKind.u8 b.sel)
                                                (SVs.cons (SV.arr IntKind.u8 8 b.rs) (SVs.cons (SV.i IntKind.u8 b.turn) (SVs.cons (SV.i IntKind.u8 b.guard) (SVs.cons (SV.i IntKind.u8 b.iLatch) (SVs.cons (SV.i IntKind.u8 b.iCount) (SVs.cons (SV.b b.iLoad) (SVs.cons (SV.b b.iOn) (SVs.cons (SV.b b.irq) (SVs.cons (SV.i IntKind.i64 b.epoch) SVs.nil)))))))))))))))))))))))))
                SVs.nil))
            SVs.nil)]))) := by kernel_rfl
theorem tC (lim i : Int) (b : Brd) (N : St → Prop) (X : Kont) : (execC (EB gP noLoop) (callN (EB gP noLoop) 1) 129 Tryd.f129.ntmps (codeL Tryd.f129 6) (sC lim i b) (oneK kC 1 N X)) = (
  br (decide (i < lim))
  (Chk b.fit ∧
    N
      (St.mk [(0, SV.ptr 0 []), (24, SV.i IntKind.i64 lim), (25, SV.i IntKind.i64 (IntKind.i64.wrap (i + 1)))]
        [SV.agg
            (SVs.cons
              (SV.agg
                (SVs.cons
                  (SV.agg
                    (SVs.cons (SV.i IntKind.i64 b.pulse.kind)
                      (SVs.cons (SV.i IntKind.i64 b.pulse.sub)
                        (SVs.cons (SV.i IntKind.u8 b.pulse.hard)
                          (SVs.cons (SV.b b.pulse.work)
                            (SVs.cons (SV.i IntKind.i64 b.pulse.prg)
                              (SVs.cons (SV.i IntKind.i64 b.pulse.chr)
                                (SVs.cons (SV.b b.pulse.cram)
                                  (SVs.cons (SV.i IntKind.u8 b.pulse.shift)
                                    (SVs.cons (SV.i IntKind.u8 b.pulse.ctrl)
                                      (SVs.cons (SV.i IntKind.u8 b.pulse.chrA)
                                        (SVs.cons (SV.i IntKind.u8 b.pulse.chrB)
                                          (SVs.cons (SV.i IntKind.u8 b.pulse.prgR)
                                            (SVs.cons (SV.i IntKind.i64 b.pulse.last)
                                              (SVs.cons (SV.i IntKind.u8 b.pulse.latch)
                                                (SVs.cons (SV.i IntKind.u8 b.pulse.sel)
                                                  (SVs.cons (SV.arr IntKind.u8 8 b.pulse.rs)
                                                    (SVs.cons (SV.i IntKind.u8 b.pulse.turn) (SVs.cons (SV.i IntKind.u8 b.pulse.guard) (SVs.cons (SV.i IntKind.u8 b.pulse.iLatch) (SVs.cons (SV.i IntKind.u8 b.pulse.iCount) (SVs.cons (SV.b b.pulse.iLoad) (SVs.cons (SV.b b.pulse.iOn) (SVs.cons (SV.b b.pulse.irq) (SVs.cons (SV.i IntKind.i64 b.pulse.epoch) SVs.nil)))))))))))))))))))))))))
                  SVs.nil))
              SVs.nil)]))
  (X (Exit.exit 2)
    (St.mk [(0, SV.ptr 0 []), (24, SV.i IntKind.i64 lim), (25, SV.i IntKind.i64 i)]
      [SV.agg
          (SVs.cons
            (SV.agg
              (SVs.cons
                (SV.agg
                  (SVs.cons (SV.i IntKind.i64 b.kind)
                    (SVs.cons (SV.i IntKind.i64 b.sub)
                      (SVs.cons (SV.i IntKind.u8 b.hard)
                        (SVs.cons (SV.b b.work)
                          (SVs.cons (SV.i IntKind.i64 b.prg)
                            (SVs.cons (SV.i IntKind.i64 b.chr)
                              (SVs.cons (SV.b b.cram)
                                (SVs.cons (SV.i IntKind.u8 b.shift)
                                  (SVs.cons (SV.i IntKind.u8 b.ctrl)
                                    (SVs.cons (SV.i IntKind.u8 b.chrA)
                                      (SVs.cons (SV.i IntKind.u8 b.chrB)
                                        (SVs.cons (SV.i IntKind.u8 b.prgR)
                                          (SVs.cons (SV.i IntKind.i64 b.last)
                                            (SVs.cons (SV.i IntKind.u8 b.latch)
                                              (SVs.cons (SV.i IntKind.u8 b.sel)
                                                (SVs.cons (SV.arr IntKind.u8 8 b.rs) (SVs.cons (SV.i IntKind.u8 b.turn) (SVs.cons (SV.i IntKind.u8 b.guard) (SVs.cons (SV.i IntKind.u8 b.iLatch) (SVs.cons (SV.i IntKind.u8 b.iCount) (SVs.cons (SV.b b.iLoad) (SVs.cons (SV.b b.iOn) (SVs.cons (SV.b b.irq) (SVs.cons (SV.i IntKind.i64 b.epoch) SVs.nil)))))))))))))))))))))))))
                SVs.nil))
            SVs.nil)]))) := by kernel_rfl
theorem tD (n i : Int) (b z : Brd) (N : St → Prop) (X : Kont) : (execC (EB gP noLoop) (callN (EB gP noLoop) 1) 26 Tryd.f26.ntmps (codeL Tryd.f26 6) (sD n i b z) (oneK kD 2 N X)) = (
  br (decide (i < n))
  (Chk b.fit ∧
    N
      (St.mk [(1, SV.i IntKind.i64 n), (2, SV.ptr 0 []), (4, SV.ptr 1 []), (5, SV.i IntKind.i64 (IntKind.i64.wrap (i + 1)))]
        [SV.agg
            (SVs.cons (SV.i IntKind.i64 b.pulse.kind)
              (SVs.cons (SV.i IntKind.i64 b.pulse.sub)
                (SVs.cons (SV.i IntKind.u8 b.pulse.hard)
                  (SVs.cons (SV.b b.pulse.work)
                    (SVs.cons (SV.i IntKind.i64 b.pulse.prg)
                      (SVs.cons (SV.i IntKind.i64 b.pulse.chr)
                        (SVs.cons (SV.b b.pulse.cram)
                          (SVs.cons (SV.i IntKind.u8 b.pulse.shift)
                            (SVs.cons (SV.i IntKind.u8 b.pulse.ctrl)
                              (SVs.cons (SV.i IntKind.u8 b.pulse.chrA)
                                (SVs.cons (SV.i IntKind.u8 b.pulse.chrB)
                                  (SVs.cons (SV.i IntKind.u8 b.pulse.prgR)
                                    (SVs.cons (SV.i IntKind.i64 b.pulse.last)
                                      (SVs.cons (SV.i IntKind.u8 b.pulse.latch)
                                        (SVs.cons (SV.i IntKind.u8 b.pulse.sel)
                                          (SVs.cons (SV.arr IntKind.u8 8 b.pulse.rs)
                                            (SVs.cons (SV.i IntKind.u8 b.pulse.turn) (SVs.cons (SV.i IntKind.u8 b.pulse.guard) (SVs.cons (SV.i IntKind.u8 b.pulse.iLatch) (SVs.cons (SV.i IntKind.u8 b.pulse.iCount) (SVs.cons (SV.b b.pulse.iLoad) (SVs.cons (SV.b b.pulse.iOn) (SVs.cons (SV.b b.pulse.irq) (SVs.cons (SV.i IntKind.i64 b.pulse.epoch) SVs.nil)))))))))))))))))))))))),
          SV.agg
            (SVs.cons (SV.i IntKind.i64 z.kind)
              (SVs.cons (SV.i IntKind.i64 z.sub)
                (SVs.cons (SV.i IntKind.u8 z.hard)
                  (SVs.cons (SV.b z.work)
                    (SVs.cons (SV.i IntKind.i64 z.prg)
                      (SVs.cons (SV.i IntKind.i64 z.chr)
                        (SVs.cons (SV.b z.cram)
                          (SVs.cons (SV.i IntKind.u8 z.shift)
                            (SVs.cons (SV.i IntKind.u8 z.ctrl)
                              (SVs.cons (SV.i IntKind.u8 z.chrA)
                                (SVs.cons (SV.i IntKind.u8 z.chrB)
                                  (SVs.cons (SV.i IntKind.u8 z.prgR)
                                    (SVs.cons (SV.i IntKind.i64 z.last)
                                      (SVs.cons (SV.i IntKind.u8 z.latch)
                                        (SVs.cons (SV.i IntKind.u8 z.sel) (SVs.cons (SV.arr IntKind.u8 8 z.rs) (SVs.cons (SV.i IntKind.u8 z.turn) (SVs.cons (SV.i IntKind.u8 z.guard) (SVs.cons (SV.i IntKind.u8 z.iLatch) (SVs.cons (SV.i IntKind.u8 z.iCount) (SVs.cons (SV.b z.iLoad) (SVs.cons (SV.b z.iOn) (SVs.cons (SV.b z.irq) (SVs.cons (SV.i IntKind.i64 z.epoch) SVs.nil))))))))))))))))))))))))]))
  (X (Exit.exit 0)
    (St.mk [(1, SV.i IntKind.i64 n), (2, SV.ptr 0 []), (4, SV.ptr 1 []), (5, SV.i IntKind.i64 i)]
      [SV.agg
          (SVs.cons (SV.i IntKind.i64 b.kind)
            (SVs.cons (SV.i IntKind.i64 b.sub)
              (SVs.cons (SV.i IntKind.u8 b.hard)
                (SVs.cons (SV.b b.work)
                  (SVs.cons (SV.i IntKind.i64 b.prg)
                    (SVs.cons (SV.i IntKind.i64 b.chr)
                      (SVs.cons (SV.b b.cram)
                        (SVs.cons (SV.i IntKind.u8 b.shift)
                          (SVs.cons (SV.i IntKind.u8 b.ctrl)
                            (SVs.cons (SV.i IntKind.u8 b.chrA)
                              (SVs.cons (SV.i IntKind.u8 b.chrB)
                                (SVs.cons (SV.i IntKind.u8 b.prgR)
                                  (SVs.cons (SV.i IntKind.i64 b.last)
                                    (SVs.cons (SV.i IntKind.u8 b.latch)
                                      (SVs.cons (SV.i IntKind.u8 b.sel) (SVs.cons (SV.arr IntKind.u8 8 b.rs) (SVs.cons (SV.i IntKind.u8 b.turn) (SVs.cons (SV.i IntKind.u8 b.guard) (SVs.cons (SV.i IntKind.u8 b.iLatch) (SVs.cons (SV.i IntKind.u8 b.iCount) (SVs.cons (SV.b b.iLoad) (SVs.cons (SV.b b.iOn) (SVs.cons (SV.b b.irq) (SVs.cons (SV.i IntKind.i64 b.epoch) SVs.nil)))))))))))))))))))))))),
        SV.agg
          (SVs.cons (SV.i IntKind.i64 z.kind)
            (SVs.cons (SV.i IntKind.i64 z.sub)
              (SVs.cons (SV.i IntKind.u8 z.hard)
                (SVs.cons (SV.b z.work)
                  (SVs.cons (SV.i IntKind.i64 z.prg)
                    (SVs.cons (SV.i IntKind.i64 z.chr)
                      (SVs.cons (SV.b z.cram)
                        (SVs.cons (SV.i IntKind.u8 z.shift)
                          (SVs.cons (SV.i IntKind.u8 z.ctrl)
                            (SVs.cons (SV.i IntKind.u8 z.chrA)
                              (SVs.cons (SV.i IntKind.u8 z.chrB)
                                (SVs.cons (SV.i IntKind.u8 z.prgR)
                                  (SVs.cons (SV.i IntKind.i64 z.last)
                                    (SVs.cons (SV.i IntKind.u8 z.latch)
                                      (SVs.cons (SV.i IntKind.u8 z.sel) (SVs.cons (SV.arr IntKind.u8 8 z.rs) (SVs.cons (SV.i IntKind.u8 z.turn) (SVs.cons (SV.i IntKind.u8 z.guard) (SVs.cons (SV.i IntKind.u8 z.iLatch) (SVs.cons (SV.i IntKind.u8 z.iCount) (SVs.cons (SV.b z.iLoad) (SVs.cons (SV.b z.iOn) (SVs.cons (SV.b z.irq) (SVs.cons (SV.i IntKind.i64 z.epoch) SVs.nil))))))))))))))))))))))))]))) := by kernel_rfl

end Go.Sx

namespace Go.Sx
open Go.Proofs
set_option linter.unusedVariables false
set_option linter.unusedSimpArgs false
set_option maxRecDepth 100000
theorem roundsN_succ (keep : List Tmp) (m : Nat) (body : St → Kont → Prop) (K : Kont) (n : Nat) (s : St) :
    roundsN keep m body K (n + 1) s = body s (oneK keep m (roundsN keep m body K n) K) := by
  simp only [roundsN]
  congr 1
theorem LoopSem.of {E E' : Env} (hP : E.P = E'.P) (hg : E.glob = E'.glob) {nt : Nat} {c : Code} {l : LCon} (h : LoopSem E nt c l) : LoopSem E' nt c l := by
  cases E; cases E'; subst hP; subst hg; exact h
theorem loop_in {gam gam' : List (Nat × Con)} {loop : List (Nat × Nat × LCon)} (hg : GamOK (EB gam noLoop)) (k : Nat) {f id : Nat} {fn : Func} (hfn : Tryd.prog.funcs[f]? = some fn) (ho : oneL fn id = true) {l : LCon}
    (h : ∀ s K, l.pt s K → ∃ n, roundsN l.keep s.mem.length (execC (EB gam noLoop) (callN (EB gam noLoop) k) f fn.ntmps (codeL fn id)) K n s) : LoopIn (EB gam' loop) (f, id, l) := by
  refine ⟨fn, hfn, ho, LoopSem.of (E := EB gam noLoop) rfl rfl (loop_sem (execC_sound (EB_ok _ _) hg (callN_sound (EB_ok _ _) hg (noLoops _) k) _ ?_) h)⟩
  intro x hx l e
  simp [EB, noLoop, lookL2] at e
theorem pulses_zero (b : Brd) : b.pulses 0 = b := rfl
theorem pulses_succ (b : Brd) (n : Nat) : (b.pulses n).pulse = b.pulses (n + 1) := by
  unfold Brd.pulses
  rw [it_succ]
  rfl
theorem pulses_add (b : Brd) (m n : Nat) : (b.pulses m).pulses n = b.pulses (m + n) := by
  unfold Brd.pulses
  rw [it_add]
  rfl
theorem pulses_fit {b : Brd} (h : b.fit) : ∀ n : Nat, (b.pulses n).fit
  | 0 => h
  | n + 1 => by rw [← pulses_succ]; exact pulse_fit (pulses_fit h n)

def bodyA : St → Kont → Prop := execC (EB gP noLoop) (callN (EB gP noLoop) 1) 129 Tryd.f129.ntmps (codeL Tryd.f129 2)
theorem loopA (K : Kont) (n f lim : Int) (b : Brd) (h : b.fit) (h0 : 0 ≤ lim) (h1 : lim ≤ 4611686018427387904) (hk : K (Exit.exit 0) (sA n f lim lim (b.pulses lim.toNat))) :
    ∀ (i j : Nat), j + i = lim.toNat → ∃ m, roundsN kA 1 bodyA K m (sA n f lim (j : Int) (b.pulses j))
  | 0, j, e => by
    refine ⟨1, ?_⟩
    have ej : (j : Int) = lim := by omega
    have ej2 : j = lim.toNat := by omega
    rw [roundsN_succ]; unfold bodyA; rw [tA]
    rw [show decide ((j : Int) < lim) = false by simp; omega]
    rw [← ej2] at hk
    rw [ej]
    exact hk
  | i + 1, j, e => by
    obtain ⟨m, hm⟩ := loopA K n f lim b h h0 h1 hk i (j + 1) (by omega)
    refine ⟨m + 1, ?_⟩
    rw [roundsN_succ]; unfold bodyA; rw [tA]
    rw [show decide ((j : Int) < lim) = true by simp; omega, IntWalk.i64_in ((j : Int) + 1) (by omega), pulses_succ]
    exact ⟨⟨pulses_fit h j⟩, hm⟩
structure okA (b : Brd) (lim i : Int) : Prop where
  fit : b.fit
  lo : 0 ≤ lim
  hi : lim ≤ 4611686018427387904
  i : i = 0
def ptA (s : St) (K : Kont) : Prop := match s with
  | ⟨[(0, .ptr 0 []), (1, .i .i64 n), (4, .i .i64 f), (7, .i .i64 lim), (8, .i .i64 i)], [x]⟩ => (match kiOf x with
    | some b => Chk (okA b lim i) ∧ K (Exit.exit 0) (sA n f lim lim (b.pulses lim.toNat))
    | none => False)
  | _ => False
def lA : LCon := ⟨kA, ptA⟩
theorem inA (gam : List (Nat × Con)) (loop : List (Nat × Nat × LCon)) : LoopIn (EB gam loop) (129, 2, lA) := by
  refine loop_in gP_ok 1 Tryd.func129 (by kernel_rfl) fun s K hp => ?_
  change ptA s K at hp
  unfold ptA at hp
  split at hp
  · rename_i n f lim i x
    split at hp
    · rename_i b hb
      obtain ⟨⟨hf, hl, hh, rfl⟩, k1⟩ := hp
      rw [kiOf_some hb]
      exact loopA K n f lim _ hf hl hh k1 lim.toNat 0 (by omega)
    · exact hp.elim
  · exact hp.elim

def bodyC : St → Kont → Prop := execC (EB gP noLoop) (callN (EB gP noLoop) 1) 129 Tryd.f129.ntmps (codeL Tryd.f129 6)
theorem loopC (K : Kont) (lim : Int) (b : Brd) (h : b.fit) (h0 : 0 ≤ lim) (h1 : lim ≤ 4611686018427387904) (hk : K (Exit.exit 2) (sC lim lim (b.pulses lim.toNat))) :
    ∀ (i j : Nat), j + i = lim.toNat → ∃ m, roundsN kC 1 bodyC K m (sC lim (j : Int) (b.pulses j))
  | 0, j, e => by
    refine ⟨1, ?_⟩
    have ej : (j : Int) = lim := by omega
    have ej2 : j = lim.toNat := by omega
    rw [roundsN_succ]; unfold bodyC; rw [tC]
    rw [show decide ((j : Int) < lim) = false by simp; omega]
    rw [← ej2] at hk
    rw [ej]
    exact hk
  | i + 1, j, e => by
    obtain ⟨m, hm⟩ := loopC K lim b h h0 h1 hk i (j + 1) (by omega)
    refine ⟨m + 1, ?_⟩
    rw [roundsN_succ]; unfold bodyC; rw [tC]
    rw [show decide ((j : Int) < lim) = true by simp; omega, IntWalk.i64_in ((j : Int) + 1) (by omega), pulses_succ]
    exact ⟨⟨pulses_fit h j⟩, hm⟩
structure okC (b : Brd) (lim i : Int) : Prop where
  fit : b.fit
  lo : 0 ≤ lim
  hi : lim ≤ 4611686018427387904
  i : i = 0
def ptC (s : St) (K : Kont) : Prop := match s with
  | ⟨[(0, .ptr 0 []), (24, .i .i64 lim), (25, .i .i64 i)], [x]⟩ => (match kiOf x with
    | some b => Chk (okC b lim i) ∧ K (Exit.exit 2) (sC lim lim (b.pulses lim.toNat))
    | none => False)
  | _ => False
def lC : LCon := ⟨kC, ptC⟩
theorem inC (gam : List (Nat × Con)) (loop : List (Nat × Nat × LCon)) : LoopIn (EB gam loop) (129, 6, lC) := by
  refine loop_in gP_ok 1 Tryd.func129 (by kernel_rfl) fun s K hp => ?_
  change ptC s K at hp
  unfold ptC at hp
  split at hp
  · rename_i lim i x
    split at hp
    · rename_i b hb
      obtain ⟨⟨hf, hl, hh, rfl⟩, k1⟩ := hp
      rw [kiOf_some hb]
      exact loopC K lim _ hf hl hh k1 lim.toNat 0 (by omega)
    · exact hp.elim
  · exact hp.elim

def bodyD : St → Kont → Prop := execC (EB gP noLoop) (callN (EB gP noLoop) 1) 26 Tryd.f26.ntmps (codeL Tryd.f26 6)
theorem loopD (K : Kont) (n : Int) (z : Brd) (b : Brd) (h : b.fit) (h0 : 0 ≤ n) (h1 : n ≤ 4611686018427387904) (hk : K (Exit.exit 0) (sD n n (b.pulses n.toNat) z)) :
    ∀ (i j : Nat), j + i = n.toNat → ∃ m, roundsN kD 2 bodyD K m (sD n (j : Int) (b.pulses j) z)
  | 0, j, e => by
    refine ⟨1, ?_⟩
    have ej : (j : Int) = n := by omega
    have ej2 : j = n.toNat := by omega
    rw [roundsN_succ]; unfold bodyD; rw [tD]
    rw [show decide ((j : Int) < n) = false by simp; omega]
    rw [← ej2] at hk
    rw [ej]
    exact hk
  | i + 1, j, e => by
    obtain ⟨m, hm⟩ := loopD K n z b h h0 h1 hk i (j + 1) (by omega)
    refine ⟨m + 1, ?_⟩
    rw [roundsN_succ]; unfold bodyD; rw [tD]
    rw [show decide ((j : Int) < n) = true by simp; omega, IntWalk.i64_in ((j : Int) + 1) (by omega), pulses_succ]
    exact ⟨⟨pulses_fit h j⟩, hm⟩
structure okD (b : Brd) (lim i : Int) : Prop where
  fit : b.fit
  lo : 0 ≤ lim
  hi : lim ≤ 4611686018427387904
  i : i = 0
def ptD (s : St) (K : Kont) : Prop := match s with
  | ⟨[(1, .i .i64 n), (2, .ptr 0 []), (4, .ptr 1 []), (5, .i .i64 i)], [x, y]⟩ => (match brdOf x, brdOf y with
    | some b, some z => Chk (okD b n i) ∧ K (Exit.exit 0) (sD n n (b.pulses n.toNat) z)
    | _, _ => False)
  | _ => False
def lD : LCon := ⟨kD, ptD⟩
theorem inD (gam : List (Nat × Con)) (loop : List (Nat × Nat × LCon)) : LoopIn (EB gam loop) (26, 6, lD) := by
  refine loop_in gP_ok 1 Tryd.func26 (by kernel_rfl) fun s K hp => ?_
  change ptD s K at hp
  unfold ptD at hp
  split at hp
  · rename_i n i x y
    split at hp
    · rename_i b z hb hz
      obtain ⟨⟨hf, hl, hh, rfl⟩, k1⟩ := hp
      rw [brdOf_some hb, brdOf_some hz]
      exact loopD K n z _ hf hl hh k1 n.toNat 0 (by omega)
    · exact hp.elim
  · exact hp.elim
end Go.Sx

namespace Go.Sx
open Go.Proofs
set_option linter.unusedVariables false
set_option linter.unusedSimpArgs false
set_option maxRecDepth 100000
def LA : List (Nat × Nat × LCon) := [(129, 2, lA), (129, 6, lC), (26, 6, lD)]
theorem LA_ok (gam : List (Nat × Con)) : LoopsOK (EB gam LA) := loops_ok rfl ⟨inA _ _, inC _ _, inD _ _, trivial⟩
theorem gPA_ok : GamOK (EB gP LA) := gam_ok rfl ⟨con56.of, con131.of, con24.of, con19.of, con20.of, con21.of, con41.of, con22.of, con23.of, con50.of, con51.of, con52.of, con53.of, trivial⟩

theorem t129 (b : Brd) (n : Int) (Z : SV → Brd → Prop) : (bodyK (EB gP LA) (callN (EB gP LA) 1) 129 Tryd.f129 [.ptr 0 [], .i .i64 n] [ki b] (onK Z)) = (
  Chk (okA b (bif decide (600 < n) then 600 else n) 0) ∧
  br (!decide (IntKind.i64.wrap (IntKind.i64.wrap (b.pulses (bif decide (600 < n) then 600 else n).toNat).iLatch + 1) = 0))
    (Chk (okC (b.pulses (bif decide (600 < n) then 600 else n).toNat) ((IntKind.i64.wrap (n - bif decide (600 < n) then 600 else n)).tmod (IntKind.i64.wrap (IntKind.i64.wrap (b.pulses (bif decide (600 < n) then 600 else n).toNat).iLatch + 1))) 0) ∧
      Z (SV.tup SVs.nil) ((b.pulses (bif decide (600 < n) then 600 else n).toNat).pulses ((IntKind.i64.wrap (n - bif decide (600 < n) then 600 else n)).tmod (IntKind.i64.wrap (IntKind.i64.wrap (b.pulses (bif decide (600 < n) then 600 else n).toNat).iLatch + 1))).toNat))
    False) := by kernel_rfl
theorem t26 (b : Brd) (n : Int) (Z : Brd → Prop) : (bodyK (EB gP LA) (callN (EB gP LA) 1) 26 Tryd.f26 [b.sv, .i .i64 n] [] (fun y _ => onB (y.cl 0) (onB1 Z y))) = (
  Chk b.fit ∧
  br (!b.valid || b.kind != 4 || decide (n ≤ 0)) (Z b)
    (br (decide (1200 < n)) (br (!decide (IntKind.i64.wrap (IntKind.i64.wrap b.iLatch + 1) = 0)) (Chk (okD b (IntKind.i64.wrap (600 + (IntKind.i64.wrap (n - 600)).tmod (IntKind.i64.wrap (IntKind.i64.wrap b.iLatch + 1)))) 0) ∧ Z (b.pulses (IntKind.i64.wrap (600 + (IntKind.i64.wrap (n - 600)).tmod (IntKind.i64.wrap (IntKind.i64.wrap b.iLatch + 1)))).toNat)) False)
      (Chk (okD b n 0) ∧ Z (b.pulses n.toNat)))) := by kernel_rfl

end Go.Sx

namespace Go.Sx
open Go.Proofs
set_option linter.unusedVariables false
set_option linter.unusedSimpArgs false
set_option maxRecDepth 100000
theorem pulses_reduce {b : Brd} (h : b.fit) (n : Nat) (hn : 600 ≤ n) : b.pulses (600 + (n - 600) % (b.iLatch.toNat + 1)) = b.pulses n := by
  have h1 := h.iLatch
  have h2 := h.iCount
  unfold u8 at h1 h2
  unfold Brd.pulses
  rw [it_reduce h1.1 h1.2 b.cnt h2.1 h2.2 n 600 (by omega) hn]
theorem wrap_latch {b : Brd} (h : b.fit) : IntKind.i64.wrap (IntKind.i64.wrap b.iLatch + 1) = b.iLatch + 1 := by
  have h1 := h.iLatch
  unfold u8 at h1
  rw [IntWalk.i64_in b.iLatch (by omega), IntWalk.i64_in _ (by omega)]
theorem rest_nat {b : Brd} (h : b.fit) (n : Int) (hn : 600 ≤ n) : ((n - 600) % (b.iLatch + 1)).toNat = (n.toNat - 600) % (b.iLatch.toNat + 1) := by
  have h1 := h.iLatch
  unfold u8 at h1
  have e1 : (n - 600) = ((n.toNat - 600 : Nat) : Int) := by omega
  have e2 : b.iLatch + 1 = ((b.iLatch.toNat + 1 : Nat) : Int) := by omega
  rw [e1, e2, ← Int.natCast_emod, Int.toNat_natCast]
theorem rest_range {b : Brd} (h : b.fit) (n : Int) : 0 ≤ (n - 600) % (b.iLatch + 1) ∧ (n - 600) % (b.iLatch + 1) < 256 := by
  have h1 := h.iLatch
  unfold u8 at h1
  have e1 := Int.emod_nonneg (n - 600) (by omega : b.iLatch + 1 ≠ 0)
  have e2 := Int.emod_lt_of_pos (n - 600) (by omega : 0 < b.iLatch + 1)
  omega
structure okClk (b : Brd) (n : Int) : Prop where
  fit : b.fit
  lo : 0 ≤ n
  hi : n ≤ 9223372036854775807
theorem p129 (b : Brd) (n : Int) (h : okClk b n) : Chk (bodyK (EB gP LA) (callN (EB gP LA) 1) 129 Tryd.f129 (.ptr 0 [] :: eI n) [ki b] (onK fun x b' => x = .tup .nil ∧ b' = b.pulses n.toNat)) := by
  constructor
  show bodyK (EB gP LA) (callN (EB gP LA) 1) 129 Tryd.f129 [.ptr 0 [], .i .i64 n] [ki b] (onK fun x b' => x = .tup .nil ∧ b' = b.pulses n.toNat)
  rw [t129]
  obtain ⟨hf, h0, h1⟩ := h
  have hL := hf.iLatch
  unfold u8 at hL
  by_cases c : 600 < n
  · rw [show decide (600 < n) = true by simpa using c]
    simp only [cond_true]
    have hb := pulses_fit hf (600 : Int).toNat
    have eL : (b.pulses (600 : Int).toNat).iLatch = b.iLatch := rfl
    have r := rest_range hf n
    have q1 : IntKind.i64.wrap (n - 600) = n - 600 := IntWalk.i64_in (n - 600) (by omega)
    have q2 : (n - 600).tmod (b.iLatch + 1) = (n - 600) % (b.iLatch + 1) := IntWalk.rem_in _ _ (by omega)
    simp only [eL, wrap_latch hf, q1, q2]
    refine ⟨⟨hf, by omega, by omega, rfl⟩, br_in (fun _ => ⟨⟨hb, by omega, by omega, rfl⟩, trivial, ?_⟩) (fun d => ?_)⟩
    · rw [pulses_add, rest_nat hf n (by omega), show (600 : Int).toNat = 600 from rfl, pulses_reduce hf n.toNat (by omega)]
    · simp at d; omega
  · rw [show decide (600 < n) = false by simpa using c]
    simp only [cond_false]
    have hb := pulses_fit hf n.toNat
    have eL : (b.pulses n.toNat).iLatch = b.iLatch := rfl
    have q1 : IntKind.i64.wrap (n - n) = 0 := by rw [IntWalk.i64_in (n - n) (by omega)]; omega
    simp only [eL, wrap_latch hf, q1, Int.zero_tmod]
    refine ⟨⟨hf, by omega, by omega, rfl⟩, br_in (fun _ => ⟨⟨hb, by omega, by omega, rfl⟩, trivial, rfl⟩) (fun d => ?_)⟩
    simp at d; omega
def cClockM : Con := .mth (mthD dI okClk (fun _ _ => .tup .nil) (fun b n => b.pulses n.toNat))
theorem con129 : ConOK (EB gP LA) 129 cClockM := EBmth (enc := eI) (p := okClk) (F := fun _ _ => .tup .nil) (G := fun b n => b.pulses n.toNat) gPA_ok (LA_ok _) 1 Tryd.func129 dI_ok (fun _ _ => rfl) p129

/-- Clock. -/
def Brd.clockN (b : Brd) (n : Int) : Brd := if b.valid = true ∧ b.kind = 4 ∧ 0 < n then b.pulses n.toNat else b
structure okBI (b : Brd) (n : Int) : Prop where
  fit : b.fit
  n : i64 n
theorem p26 (x : Brd × Int) (h : okBI x.1 x.2) : Chk (bodyK (EB gP LA) (callN (EB gP LA) 1) 26 Tryd.f26 (eBI x) [] (fun y _ => onB (y.cl 0) (onB1 (fun b' => b' = x.1.clockN x.2) y))) := by
  obtain ⟨b, n⟩ := x
  constructor
  show bodyK (EB gP LA) (callN (EB gP LA) 1) 26 Tryd.f26 [b.sv, .i .i64 n] [] (fun y _ => onB (y.cl 0) (onB1 (fun b' => b' = b.clockN n) y))
  rw [t26]
  obtain ⟨hf, hn⟩ := h
  unfold i64 at hn
  simp only at hn
  have hL := hf.iLatch
  unfold u8 at hL
  simp only at hL
  refine ⟨⟨hf⟩, br_in (fun c => ?_) (fun c => ?_)⟩
  · unfold Brd.clockN
    rw [if_neg]
    rintro ⟨v, k, p⟩
    rw [v, k] at c; simp at c; omega
  · have hc : b.valid = true ∧ b.kind = 4 ∧ 0 < n := by
      simp at c; exact ⟨c.1.1, c.1.2, by omega⟩
    unfold Brd.clockN
    rw [if_pos hc]
    have r := rest_range hf n
    simp only at r
    refine br_in (fun d => ?_) (fun d => ?_)
    · simp at d
      have q1 : IntKind.i64.wrap (n - 600) = n - 600 := IntWalk.i64_in (n - 600) (by omega)
      have q2 : (n - 600).tmod (b.iLatch + 1) = (n - 600) % (b.iLatch + 1) := IntWalk.rem_in _ _ (by omega)
      have q3 : IntKind.i64.wrap (600 + (n - 600) % (b.iLatch + 1)) = 600 + (n - 600) % (b.iLatch + 1) := IntWalk.i64_in _ (by omega)
      have q4 := wrap_latch hf
      simp only at q4
      simp only [q4, q1, q2, q3]
      refine br_in (fun _ => ⟨⟨hf, by omega, by omega, rfl⟩, ?_⟩) (fun e => ?_)
      · have := rest_nat hf n (by omega)
        simp only at this
        rw [show (600 + (n - 600) % (b.iLatch + 1)).toNat = 600 + ((n - 600) % (b.iLatch + 1)).toNat by omega, this, pulses_reduce hf n.toNat (by omega)]
      · simp at e; omega
    · simp at d
      exact ⟨⟨hf, by omega, by omega, rfl⟩, rfl⟩
def cClock : Con := .pure (preD dBI fun x => okBI x.1 x.2) (onD dBI fun x => (x.1.clockN x.2).sv)
theorem con26 : ConOK (EB gP LA) 26 cClock := EBconQ (enc := eBI) (p := fun x => okBI x.1 x.2) (F := fun x => (x.1.clockN x.2).sv) (Q := fun x => onB1 (fun b' => b' = x.1.clockN x.2)) gPA_ok (LA_ok _) 1 Tryd.func26 dBI_ok (fun x y h => onB1_out h) p26
def gQ : List (Nat × Con) := (26, cClock) :: (129, cClockM) :: gP
theorem gQ_ok : GamOK (EB gQ noLoop) := gam_ok rfl ⟨con26.of, con129.of, con56.of, con131.of, con24.of, con19.of, con20.of, con21.of, con41.of, con22.of, con23.of, con50.of, con51.of, con52.of, con53.of, trivial⟩

theorem t25 (b : Brd) (n : Int) (Z : Brd → Prop) : (bodyK (EB gQ noLoop) (callN (EB gQ noLoop) 3) 25 Tryd.f25 [b.sv, .i .i64 n] [] (fun y _ => onB (y.cl 0) (onB1 Z y))) = (
  br (!decide (n ≤ 0) && true) (Chk b.fit ∧ br (decide (n ≤ 0) || !b.valid) (Z b) (br (b.kind == 1) (Z b) (br (b.kind == 2) (Z b) (br (b.kind == 3) (Z b) (br (b.kind == 4) (Chk (okClk b n) ∧ Z (b.pulses n.toNat)) (br (b.kind == 7) (Z b) (Z b)))))))
  (br (decide (n ≤ 0) || !false) (Z b) (br (b.kind == 1) (Z b) (br (b.kind == 2) (Z b) (br (b.kind == 3) (Z b) (br (b.kind == 4) (Chk (okClk b n) ∧ Z (b.pulses n.toNat)) (br (b.kind == 7) (Z b) (Z b)))))))) := by kernel_rfl
theorem tT28 (k z : Int) (b : Brd) (N : St → Prop) (X : Kont) : (execC (EB gQ noLoop) (callN (EB gQ noLoop) 1) 28 Tryd.f28.ntmps (codeL Tryd.f28 4) ⟨[(1, .ptr 0 []), (2, .i .i64 z), (3, .i .i64 k)], [b.sv]⟩ (oneK [1, 2, 3] 1 N X)) = (
  br (decide (k ≤ 600))
  (br b.irq
    (X Exit.ret
      (St.mk [(1, SV.ptr 0 []), (2, SV.i IntKind.i64 k), (3, SV.i IntKind.i64 k)]
        [SV.agg
            (SVs.cons (SV.i IntKind.i64 b.kind)
              (SVs.cons (SV.i IntKind.i64 b.sub)
                (SVs.cons (SV.i IntKind.u8 b.hard)
                  (SVs.cons (SV.b b.work)
                    (SVs.cons (SV.i IntKind.i64 b.prg)
                      (SVs.cons (SV.i IntKind.i64 b.chr)
                        (SVs.cons (SV.b b.cram)
                          (SVs.cons (SV.i IntKind.u8 b.shift)
                            (SVs.cons (SV.i IntKind.u8 b.ctrl)
                              (SVs.cons (SV.i IntKind.u8 b.chrA)
                                (SVs.cons (SV.i IntKind.u8 b.chrB)
                                  (SVs.cons (SV.i IntKind.u8 b.prgR)
                                    (SVs.cons (SV.i IntKind.i64 b.last)
                                      (SVs.cons (SV.i IntKind.u8 b.latch)
                                        (SVs.cons (SV.i IntKind.u8 b.sel) (SVs.cons (SV.arr IntKind.u8 8 b.rs) (SVs.cons (SV.i IntKind.u8 b.turn) (SVs.cons (SV.i IntKind.u8 b.guard) (SVs.cons (SV.i IntKind.u8 b.iLatch) (SVs.cons (SV.i IntKind.u8 b.iCount) (SVs.cons (SV.b b.iLoad) (SVs.cons (SV.b b.iOn) (SVs.cons (SV.b b.irq) (SVs.cons (SV.i IntKind.i64 b.epoch) SVs.nil))))))))))))))))))))))))]))
    (br (b.kind != 4)
      (X Exit.ret
        (St.mk [(1, SV.ptr 0 []), (2, SV.i IntKind.i64 (-1)), (3, SV.i IntKind.i64 k)]
          [SV.agg
              (SVs.cons (SV.i IntKind.i64 b.kind)
                (SVs.cons (SV.i IntKind.i64 b.sub)
                  (SVs.cons (SV.i IntKind.u8 b.hard)
                    (SVs.cons (SV.b b.work)
                      (SVs.cons (SV.i IntKind.i64 b.prg)
                        (SVs.cons (SV.i IntKind.i64 b.chr)
                          (SVs.cons (SV.b b.cram)
                            (SVs.cons (SV.i IntKind.u8 b.shift)
                              (SVs.cons (SV.i IntKind.u8 b.ctrl)
                                (SVs.cons (SV.i IntKind.u8 b.chrA)
                                  (SVs.cons (SV.i IntKind.u8 b.chrB)
                                    (SVs.cons (SV.i IntKind.u8 b.prgR)
                                      (SVs.cons (SV.i IntKind.i64 b.last)
                                        (SVs.cons (SV.i IntKind.u8 b.latch)
                                          (SVs.cons (SV.i IntKind.u8 b.sel) (SVs.cons (SV.arr IntKind.u8 8 b.rs) (SVs.cons (SV.i IntKind.u8 b.turn) (SVs.cons (SV.i IntKind.u8 b.guard) (SVs.cons (SV.i IntKind.u8 b.iLatch) (SVs.cons (SV.i IntKind.u8 b.iCount) (SVs.cons (SV.b b.iLoad) (SVs.cons (SV.b b.iOn) (SVs.cons (SV.b b.irq) (SVs.cons (SV.i IntKind.i64 b.epoch) SVs.nil))))))))))))))))))))))))]))
      (Chk b.fit ∧
        N
          (St.mk [(1, SV.ptr 0 []), (2, SV.i IntKind.i64 z), (3, SV.i IntKind.i64 (IntKind.i64.wrap (k + 1)))]
            [SV.agg
                (SVs.cons (SV.i IntKind.i64 b.pulse.kind)
                  (SVs.cons (SV.i IntKind.i64 b.pulse.sub)
                    (SVs.cons (SV.i IntKind.u8 b.pulse.hard)
                      (SVs.cons (SV.b b.pulse.work)
                        (SVs.cons (SV.i IntKind.i64 b.pulse.prg)
                          (SVs.cons (SV.i IntKind.i64 b.pulse.chr)
                            (SVs.cons (SV.b b.pulse.cram)
                              (SVs.cons (SV.i IntKind.u8 b.pulse.shift)
                                (SVs.cons (SV.i IntKind.u8 b.pulse.ctrl)
                                  (SVs.cons (SV.i IntKind.u8 b.pulse.chrA)
                                    (SVs.cons (SV.i IntKind.u8 b.pulse.chrB)
                                      (SVs.cons (SV.i IntKind.u8 b.pulse.prgR)
                                        (SVs.cons (SV.i IntKind.i64 b.pulse.last)
                                          (SVs.cons (SV.i IntKind.u8 b.pulse.latch)
                                            (SVs.cons (SV.i IntKind.u8 b.pulse.sel)
                                              (SVs.cons (SV.arr IntKind.u8 8 b.pulse.rs)
                                                (SVs.cons (SV.i IntKind.u8 b.pulse.turn) (SVs.cons (SV.i IntKind.u8 b.pulse.guard) (SVs.cons (SV.i IntKind.u8 b.pulse.iLatch) (SVs.cons (SV.i IntKind.u8 b.pulse.iCount) (SVs.cons (SV.b b.pulse.iLoad) (SVs.cons (SV.b b.pulse.iOn) (SVs.cons (SV.b b.pulse.irq) (SVs.cons (SV.i IntKind.i64 b.pulse.epoch) SVs.nil))))))))))))))))))))))))]))))
  (X (Exit.exit 0)
    (St.mk [(1, SV.ptr 0 []), (2, SV.i IntKind.i64 z), (3, SV.i IntKind.i64 k)]
      [SV.agg
          (SVs.cons (SV.i IntKind.i64 b.kind)
            (SVs.cons (SV.i IntKind.i64 b.sub)
              (SVs.cons (SV.i IntKind.u8 b.hard)
                (SVs.cons (SV.b b.work)
                  (SVs.cons (SV.i IntKind.i64 b.prg)
                    (SVs.cons (SV.i IntKind.i64 b.chr)
                      (SVs.cons (SV.b b.cram)
                        (SVs.cons (SV.i IntKind.u8 b.shift)
                          (SVs.cons (SV.i IntKind.u8 b.ctrl)
                            (SVs.cons (SV.i IntKind.u8 b.chrA)
                              (SVs.cons (SV.i IntKind.u8 b.chrB)
                                (SVs.cons (SV.i IntKind.u8 b.prgR)
                                  (SVs.cons (SV.i IntKind.i64 b.last)
                                    (SVs.cons (SV.i IntKind.u8 b.latch)
                                      (SVs.cons (SV.i IntKind.u8 b.sel) (SVs.cons (SV.arr IntKind.u8 8 b.rs) (SVs.cons (SV.i IntKind.u8 b.turn) (SVs.cons (SV.i IntKind.u8 b.guard) (SVs.cons (SV.i IntKind.u8 b.iLatch) (SVs.cons (SV.i IntKind.u8 b.iCount) (SVs.cons (SV.b b.iLoad) (SVs.cons (SV.b b.iOn) (SVs.cons (SV.b b.irq) (SVs.cons (SV.i IntKind.i64 b.epoch) SVs.nil))))))))))))))))))))))))]))) := by kernel_rfl
theorem tT133 (k z q : Int) (a b : Brd) (N : St → Prop) (X : Kont) : (execC (EB gQ noLoop) (callN (EB gQ noLoop) 1) 133 Tryd.f133.ntmps (codeL Tryd.f133 3) ⟨[(2, .i .i64 z), (3, .ptr 1 []), (8, .i .i64 k)], [ki a, ki b]⟩ (oneK [2, 3, 8] 2 N X)) = (
  br (decide (k < 600))
  (br b.irq
    (X Exit.ret
      (St.mk [(2, SV.i IntKind.i64 k), (3, SV.ptr 1 []), (8, SV.i IntKind.i64 k)]
        [SV.agg
            (SVs.cons
              (SV.agg
                (SVs.cons
                  (SV.agg
                    (SVs.cons (SV.i IntKind.i64 a.kind)
                      (SVs.cons (SV.i IntKind.i64 a.sub)
                        (SVs.cons (SV.i IntKind.u8 a.hard)
                          (SVs.cons (SV.b a.work)
                            (SVs.cons (SV.i IntKind.i64 a.prg)
                              (SVs.cons (SV.i IntKind.i64 a.chr)
                                (SVs.cons (SV.b a.cram)
                                  (SVs.cons (SV.i IntKind.u8 a.shift)
                                    (SVs.cons (SV.i IntKind.u8 a.ctrl)
                                      (SVs.cons (SV.i IntKind.u8 a.chrA)
                                        (SVs.cons (SV.i IntKind.u8 a.chrB)
                                          (SVs.cons (SV.i IntKind.u8 a.prgR)
                                            (SVs.cons (SV.i IntKind.i64 a.last)
                                              (SVs.cons (SV.i IntKind.u8 a.latch)
                                                (SVs.cons (SV.i IntKind.u8 a.sel)
                                                  (SVs.cons (SV.arr IntKind.u8 8 a.rs) (SVs.cons (SV.i IntKind.u8 a.turn) (SVs.cons (SV.i IntKind.u8 a.guard) (SVs.cons (SV.i IntKind.u8 a.iLatch) (SVs.cons (SV.i IntKind.u8 a.iCount) (SVs.cons (SV.b a.iLoad) (SVs.cons (SV.b a.iOn) (SVs.cons (SV.b a.irq) (SVs.cons (SV.i IntKind.i64 a.epoch) SVs.nil)))))))))))))))))))))))))
                  SVs.nil))
              SVs.nil),
          SV.agg
            (SVs.cons
              (SV.agg
                (SVs.cons
                  (SV.agg
                    (SVs.cons (SV.i IntKind.i64 b.kind)
                      (SVs.cons (SV.i IntKind.i64 b.sub)
                        (SVs.cons (SV.i IntKind.u8 b.hard)
                          (SVs.cons (SV.b b.work)
                            (SVs.cons (SV.i IntKind.i64 b.prg)
                              (SVs.cons (SV.i IntKind.i64 b.chr)
                                (SVs.cons (SV.b b.cram)
                                  (SVs.cons (SV.i IntKind.u8 b.shift)
                                    (SVs.cons (SV.i IntKind.u8 b.ctrl)
                                      (SVs.cons (SV.i IntKind.u8 b.chrA)
                                        (SVs.cons (SV.i IntKind.u8 b.chrB)
                                          (SVs.cons (SV.i IntKind.u8 b.prgR)
                                            (SVs.cons (SV.i IntKind.i64 b.last)
                                              (SVs.cons (SV.i IntKind.u8 b.latch)
                                                (SVs.cons (SV.i IntKind.u8 b.sel)
                                                  (SVs.cons (SV.arr IntKind.u8 8 b.rs) (SVs.cons (SV.i IntKind.u8 b.turn) (SVs.cons (SV.i IntKind.u8 b.guard) (SVs.cons (SV.i IntKind.u8 b.iLatch) (SVs.cons (SV.i IntKind.u8 b.iCount) (SVs.cons (SV.b b.iLoad) (SVs.cons (SV.b b.iOn) (SVs.cons (SV.b b.irq) (SVs.cons (SV.i IntKind.i64 b.epoch) SVs.nil)))))))))))))))))))))))))
                  SVs.nil))
              SVs.nil)]))
    (Chk b.fit ∧
      N
        (St.mk [(2, SV.i IntKind.i64 z), (3, SV.ptr 1 []), (8, SV.i IntKind.i64 (IntKind.i64.wrap (k + 1)))]
          [SV.agg
              (SVs.cons
                (SV.agg
                  (SVs.cons
                    (SV.agg
                      (SVs.cons (SV.i IntKind.i64 a.kind)
                        (SVs.cons (SV.i IntKind.i64 a.sub)
                          (SVs.cons (SV.i IntKind.u8 a.hard)
                            (SVs.cons (SV.b a.work)
                              (SVs.cons (SV.i IntKind.i64 a.prg)
                                (SVs.cons (SV.i IntKind.i64 a.chr)
                                  (SVs.cons (SV.b a.cram)
                                    (SVs.cons (SV.i IntKind.u8 a.shift)
                                      (SVs.cons (SV.i IntKind.u8 a.ctrl)
                                        (SVs.cons (SV.i IntKind.u8 a.chrA)
                                          (SVs.cons (SV.i IntKind.u8 a.chrB)
                                            (SVs.cons (SV.i IntKind.u8 a.prgR)
                                              (SVs.cons (SV.i IntKind.i64 a.last)
                                                (SVs.cons (SV.i IntKind.u8 a.latch)
                                                  (SVs.cons (SV.i IntKind.u8 a.sel)
                                                    (SVs.cons (SV.arr IntKind.u8 8 a.rs) (SVs.cons (SV.i IntKind.u8 a.turn) (SVs.cons (SV.i IntKind.u8 a.guard) (SVs.cons (SV.i IntKind.u8 a.iLatch) (SVs.cons (SV.i IntKind.u8 a.iCount) (SVs.cons (SV.b a.iLoad) (SVs.cons (SV.b a.iOn) (SVs.cons (SV.b a.irq) (SVs.cons (SV.i IntKind.i64 a.epoch) SVs.nil)))))))))))))))))))))))))
                    SVs.nil))
                SVs.nil),
            SV.agg
              (SVs.cons
                (SV.agg
                  (SVs.cons
                    (SV.agg
                      (SVs.cons (SV.i IntKind.i64 b.pulse.kind)
                        (SVs.cons (SV.i IntKind.i64 b.pulse.sub)
                          (SVs.cons (SV.i IntKind.u8 b.pulse.hard)
                            (SVs.cons (SV.b b.pulse.work)
                              (SVs.cons (SV.i IntKind.i64 b.pulse.prg)
                                (SVs.cons (SV.i IntKind.i64 b.pulse.chr)
                                  (SVs.cons (SV.b b.pulse.cram)
                                    (SVs.cons (SV.i IntKind.u8 b.pulse.shift)
                                      (SVs.cons (SV.i IntKind.u8 b.pulse.ctrl)
                                        (SVs.cons (SV.i IntKind.u8 b.pulse.chrA)
                                          (SVs.cons (SV.i IntKind.u8 b.pulse.chrB)
                                            (SVs.cons (SV.i IntKind.u8 b.pulse.prgR)
                                              (SVs.cons (SV.i IntKind.i64 b.pulse.last)
                                                (SVs.cons (SV.i IntKind.u8 b.pulse.latch)
                                                  (SVs.cons (SV.i IntKind.u8 b.pulse.sel)
                                                    (SVs.cons (SV.arr IntKind.u8 8 b.pulse.rs)
                                                      (SVs.cons (SV.i IntKind.u8 b.pulse.turn) (SVs.cons (SV.i IntKind.u8 b.pulse.guard) (SVs.cons (SV.i IntKind.u8 b.pulse.iLatch) (SVs.cons (SV.i IntKind.u8 b.pulse.iCount) (SVs.cons (SV.b b.pulse.iLoad) (SVs.cons (SV.b b.pulse.iOn) (SVs.cons (SV.b b.pulse.irq) (SVs.cons (SV.i IntKind.i64 b.pulse.epoch) SVs.nil)))))))))))))))))))))))))
                    SVs.nil))
                SVs.nil)])))
  (X (Exit.exit 0)
    (St.mk [(2, SV.i IntKind.i64 z), (3, SV.ptr 1 []), (8, SV.i IntKind.i64 k)]
      [SV.agg
          (SVs.cons
            (SV.agg
              (SVs.cons
                (SV.agg
                  (SVs.cons (SV.i IntKind.i64 a.kind)
                    (SVs.cons (SV.i IntKind.i64 a.sub)
                      (SVs.cons (SV.i IntKind.u8 a.hard)
                        (SVs.cons (SV.b a.work)
                          (SVs.cons (SV.i IntKind.i64 a.prg)
                            (SVs.cons (SV.i IntKind.i64 a.chr)
                              (SVs.cons (SV.b a.cram)
                                (SVs.cons (SV.i IntKind.u8 a.shift)
                                  (SVs.cons (SV.i IntKind.u8 a.ctrl)
                                    (SVs.cons (SV.i IntKind.u8 a.chrA)
                                      (SVs.cons (SV.i IntKind.u8 a.chrB)
                                        (SVs.cons (SV.i IntKind.u8 a.prgR)
                                          (SVs.cons (SV.i IntKind.i64 a.last)
                                            (SVs.cons (SV.i IntKind.u8 a.latch)
                                              (SVs.cons (SV.i IntKind.u8 a.sel)
                                                (SVs.cons (SV.arr IntKind.u8 8 a.rs) (SVs.cons (SV.i IntKind.u8 a.turn) (SVs.cons (SV.i IntKind.u8 a.guard) (SVs.cons (SV.i IntKind.u8 a.iLatch) (SVs.cons (SV.i IntKind.u8 a.iCount) (SVs.cons (SV.b a.iLoad) (SVs.cons (SV.b a.iOn) (SVs.cons (SV.b a.irq) (SVs.cons (SV.i IntKind.i64 a.epoch) SVs.nil)))))))))))))))))))))))))
                SVs.nil))
            SVs.nil),
        SV.agg
          (SVs.cons
            (SV.agg
              (SVs.cons
                (SV.agg
                  (SVs.cons (SV.i IntKind.i64 b.kind)
                    (SVs.cons (SV.i IntKind.i64 b.sub)
                      (SVs.cons (SV.i IntKind.u8 b.hard)
                        (SVs.cons (SV.b b.work)
                          (SVs.cons (SV.i IntKind.i64 b.prg)
                            (SVs.cons (SV.i IntKind.i64 b.chr)
                              (SVs.cons (SV.b b.cram)
                                (SVs.cons (SV.i IntKind.u8 b.shift)
                                  (SVs.cons (SV.i IntKind.u8 b.ctrl)
                                    (SVs.cons (SV.i IntKind.u8 b.chrA)
                                      (SVs.cons (SV.i IntKind.u8 b.chrB)
                                        (SVs.cons (SV.i IntKind.u8 b.prgR)
                                          (SVs.cons (SV.i IntKind.i64 b.last)
                                            (SVs.cons (SV.i IntKind.u8 b.latch)
                                              (SVs.cons (SV.i IntKind.u8 b.sel)
                                                (SVs.cons (SV.arr IntKind.u8 8 b.rs) (SVs.cons (SV.i IntKind.u8 b.turn) (SVs.cons (SV.i IntKind.u8 b.guard) (SVs.cons (SV.i IntKind.u8 b.iLatch) (SVs.cons (SV.i IntKind.u8 b.iCount) (SVs.cons (SV.b b.iLoad) (SVs.cons (SV.b b.iOn) (SVs.cons (SV.b b.irq) (SVs.cons (SV.i IntKind.i64 b.epoch) SVs.nil)))))))))))))))))))))))))
                SVs.nil))
            SVs.nil)]))) := by kernel_rfl

end Go.Sx

namespace Go.Sx
open Go.Proofs
set_option linter.unusedVariables false
set_option linter.unusedSimpArgs false
set_option maxRecDepth 100000
theorem p25 (x : Brd × Int) (h : okBI x.1 x.2) : Chk (bodyK (EB gQ noLoop) (callN (EB gQ noLoop) 3) 25 Tryd.f25 (eBI x) [] (fun y _ => onB (y.cl 0) (onB1 (fun b' => b' = x.1.clockN x.2) y))) := by
  obtain ⟨b, n⟩ := x
  constructor
  show bodyK (EB gQ noLoop) (callN (EB gQ noLoop) 3) 25 Tryd.f25 [b.sv, .i .i64 n] [] (fun y _ => onB (y.cl 0) (onB1 (fun b' => b' = b.clockN n) y))
  rw [t25]
  obtain ⟨hf, hn⟩ := h
  unfold i64 at hn
  simp only at hn
  unfold Brd.clockN
  refine br_in (fun c => ⟨⟨hf⟩, br_in (fun d => ?_) (fun d => ?_)⟩) (fun c => br_in (fun d => ?_) (fun d => ?_))
  · rw [if_neg]
    rintro ⟨v, k, p⟩
    rw [v] at d; simp at d; omega
  · have hc : 0 < n ∧ b.valid = true := by simp at d; exact ⟨by omega, d.2⟩
    refine br_in (fun e => ?_) (fun e => br_in (fun e2 => ?_) (fun e2 => br_in (fun e3 => ?_) (fun e3 => br_in (fun e4 => ⟨⟨hf, by omega, by omega⟩, ?_⟩) (fun e4 => ?_))))
    · rw [if_neg]; rintro ⟨v, k, p⟩; rw [k] at e; simp at e
    · rw [if_neg]; rintro ⟨v, k, p⟩; rw [k] at e2; simp at e2
    · rw [if_neg]; rintro ⟨v, k, p⟩; rw [k] at e3; simp at e3
    · rw [if_pos ⟨hc.2, by simpa using e4, hc.1⟩]
    · refine br_in (fun _ => ?_) (fun _ => ?_) <;> (rw [if_neg]; rintro ⟨v, k, p⟩; rw [k] at e4; simp at e4)
  · rw [if_neg]
    rintro ⟨v, k, p⟩
    simp at c; omega
  · simp at d
theorem con25 : ConOK (EB gQ noLoop) 25 cClock := EBconQ (enc := eBI) (p := fun x => okBI x.1 x.2) (F := fun x => (x.1.clockN x.2).sv) (Q := fun x => onB1 (fun b' => b' = x.1.clockN x.2)) gQ_ok (noLoops _) 3 Tryd.func25 dBI_ok (fun x y h => onB1_out h) p25

/-! ToIrq. -/
def Brd.seek : Nat → Int → Brd → Int
  | 0, _, _ => -1
  | f + 1, k, b => if b.irq = true then k else Brd.seek f (k + 1) b.pulse
theorem seek_range : ∀ (f : Nat) (k : Int) (b : Brd), 0 ≤ k → Brd.seek f k b = -1 ∨ (k ≤ Brd.seek f k b ∧ Brd.seek f k b < k + f)
  | 0, k, b, h => .inl rfl
  | f + 1, k, b, h => by
    unfold Brd.seek
    split
    · right; omega
    · have := seek_range f (k + 1) b.pulse (by omega)
      omega
def s28 (z k : Int) (b : Brd) : St := ⟨[(1, .ptr 0 []), (2, .i .i64 z), (3, .i .i64 k)], [b.sv]⟩
def body28 : St → Kont → Prop := execC (EB gQ noLoop) (callN (EB gQ noLoop) 1) 28 Tryd.f28.ntmps (codeL Tryd.f28 4)
theorem loop28 (K : Kont) (z : Int) (b : Brd) (h : b.fit) (hk : b.kind = 4) : ∀ (f j : Nat), f + j = 601 →
    (0 ≤ Brd.seek f j (b.pulses j) → K Exit.ret (s28 (Brd.seek f j (b.pulses j)) (Brd.seek f j (b.pulses j)) (b.pulses (Brd.seek f j (b.pulses j)).toNat))) →
    (Brd.seek f j (b.pulses j) = -1 → K (Exit.exit 0) (s28 z 601 (b.pulses 601))) → ∃ m, roundsN [1, 2, 3] 1 body28 K m (s28 z j (b.pulses j))
  | 0, j, e, h1, h2 => by
    refine ⟨1, ?_⟩
    have ej : j = 601 := by omega
    subst ej
    unfold s28
    rw [roundsN_succ]; unfold body28; rw [tT28]
    exact h2 rfl
  | f + 1, j, e, h1, h2 => by
    have hf := pulses_fit h j
    have hkj : (b.pulses j).kind = 4 := hk
    by_cases c : (b.pulses j).irq = true
    · refine ⟨1, ?_⟩
      have hs : Brd.seek (f + 1) j (b.pulses j) = j := by unfold Brd.seek; rw [if_pos c]
      rw [hs, Int.toNat_natCast] at h1
      unfold s28
      rw [roundsN_succ]; unfold body28; rw [tT28]
      rw [show decide ((j : Int) ≤ 600) = true by simp; omega]
      exact br_in (c := (b.pulses j).irq) (fun _ => h1 (by omega)) (fun d => by rw [c] at d; simp at d)
    · have hs : Brd.seek (f + 1) j (b.pulses j) = Brd.seek f ((j + 1 : Nat) : Int) (b.pulses (j + 1)) := by
        rw [← pulses_succ]
        conv => lhs; unfold Brd.seek
        rw [if_neg c]; rfl
      rw [hs] at h1 h2
      obtain ⟨m, hm⟩ := loop28 K z b h hk f (j + 1) (by omega) h1 h2
      refine ⟨m + 1, ?_⟩
      have c' : (b.pulses j).irq = false := by simpa using c
      unfold s28
      rw [roundsN_succ]; unfold body28; rw [tT28]
      rw [show decide ((j : Int) ≤ 600) = true by simp; omega, IntWalk.i64_in ((j : Int) + 1) (by omega), pulses_succ]
      exact br_in (c := (b.pulses j).irq) (fun d => by rw [c'] at d; simp at d) (fun _ => br_in (c := (b.pulses j).kind != 4) (fun d => by rw [hkj] at d; simp at d) (fun _ => ⟨⟨hf⟩, hm⟩))
structure ok28 (b : Brd) (k : Int) : Prop where
  fit : b.fit
  k : k = 0
def pt28 (s : St) (K : Kont) : Prop := match s with
  | ⟨[(1, .ptr 0 []), (2, .i .i64 z), (3, .i .i64 k)], [x]⟩ => (match brdOf x with
    | some b => Chk (ok28 b k) ∧ br (b.kind == 4) (br (decide (0 ≤ Brd.seek 601 0 b)) (K Exit.ret (s28 (Brd.seek 601 0 b) (Brd.seek 601 0 b) (b.pulses (Brd.seek 601 0 b).toNat))) (K (Exit.exit 0) (s28 z 601 (b.pulses 601))))
      (Chk (b.irq = false) ∧ K Exit.ret (s28 (-1) 0 b))
    | none => False)
  | _ => False
def l28 : LCon := ⟨[1, 2, 3], pt28⟩
theorem in28 (gam : List (Nat × Con)) (loop : List (Nat × Nat × LCon)) : LoopIn (EB gam loop) (28, 4, l28) := by
  refine loop_in gQ_ok 1 Tryd.func28 (by kernel_rfl) fun s K hp => ?_
  change pt28 s K at hp
  unfold pt28 at hp
  split at hp
  · rename_i z k x
    split at hp
    · rename_i b hb
      obtain ⟨⟨hf, rfl⟩, k1⟩ := hp
      rw [brdOf_some hb]
      cases hk : (b.kind == 4) with
      | true =>
        rw [hk, br_t] at k1
        have hk4 : b.kind = 4 := by simpa using hk
        have r := seek_range 601 0 b (by omega)
        refine loop28 K z b hf hk4 601 0 (by omega) (fun h => ?_) (fun h => ?_)
        · change 0 ≤ Brd.seek 601 0 b at h
          rw [show decide (0 ≤ Brd.seek 601 0 b) = true by simpa using h, br_t] at k1
          exact k1
        · change Brd.seek 601 0 b = -1 at h
          rw [show decide (0 ≤ Brd.seek 601 0 b) = false by rw [h]; rfl, br_f] at k1
          exact k1
      | false =>
        rw [hk, br_f] at k1
        obtain ⟨⟨hi⟩, k2⟩ := k1
        refine ⟨1, ?_⟩
        show roundsN [1, 2, 3] 1 body28 K 1 _
        rw [roundsN_succ]; unfold body28; rw [tT28]
        have hn : (b.kind != 4) = true := by simpa using hk
        exact br_in (c := b.irq) (fun d => by rw [hi] at d; simp at d) (fun _ => br_in (c := b.kind != 4) (fun _ => k2) (fun d => by rw [hn] at d; simp at d))
    · exact hp.elim
  · exact hp.elim

def s133 (z k : Int) (a b : Brd) : St := ⟨[(2, .i .i64 z), (3, .ptr 1 []), (8, .i .i64 k)], [ki a, ki b]⟩
def body133 : St → Kont → Prop := execC (EB gQ noLoop) (callN (EB gQ noLoop) 1) 133 Tryd.f133.ntmps (codeL Tryd.f133 3)
theorem loop133 (K : Kont) (z : Int) (a b : Brd) (h : b.fit) : ∀ (f j : Nat), f + j = 600 →
    (0 ≤ Brd.seek f j (b.pulses j) → K Exit.ret (s133 (Brd.seek f j (b.pulses j)) (Brd.seek f j (b.pulses j)) a (b.pulses (Brd.seek f j (b.pulses j)).toNat))) →
    (Brd.seek f j (b.pulses j) = -1 → K (Exit.exit 0) (s133 z 600 a (b.pulses 600))) → ∃ m, roundsN [2, 3, 8] 2 body133 K m (s133 z j a (b.pulses j))
  | 0, j, e, h1, h2 => by
    refine ⟨1, ?_⟩
    have ej : j = 600 := by omega
    subst ej
    unfold s133
    rw [roundsN_succ]; unfold body133; rw [tT133 _ _ 0]
    exact h2 rfl
  | f + 1, j, e, h1, h2 => by
    have hf := pulses_fit h j
    by_cases c : (b.pulses j).irq = true
    · refine ⟨1, ?_⟩
      have hs : Brd.seek (f + 1) j (b.pulses j) = j := by unfold Brd.seek; rw [if_pos c]
      rw [hs, Int.toNat_natCast] at h1
      unfold s133
      rw [roundsN_succ]; unfold body133; rw [tT133 _ _ 0]
      rw [show decide ((j : Int) < 600) = true by simp; omega]
      exact br_in (c := (b.pulses j).irq) (fun _ => h1 (by omega)) (fun d => by rw [c] at d; simp at d)
    · have hs : Brd.seek (f + 1) j (b.pulses j) = Brd.seek f ((j + 1 : Nat) : Int) (b.pulses (j + 1)) := by
        rw [← pulses_succ]
        conv => lhs; unfold Brd.seek
        rw [if_neg c]; rfl
      rw [hs] at h1 h2
      obtain ⟨m, hm⟩ := loop133 K z a b h f (j + 1) (by omega) h1 h2
      refine ⟨m + 1, ?_⟩
      have c' : (b.pulses j).irq = false := by simpa using c
      unfold s133
      rw [roundsN_succ]; unfold body133; rw [tT133 _ _ 0]
      rw [show decide ((j : Int) < 600) = true by simp; omega, IntWalk.i64_in ((j : Int) + 1) (by omega), pulses_succ]
      exact br_in (c := (b.pulses j).irq) (fun d => by rw [c'] at d; simp at d) (fun _ => ⟨⟨hf⟩, hm⟩)
def pt133 (s : St) (K : Kont) : Prop := match s with
  | ⟨[(2, .i .i64 z), (3, .ptr 1 []), (8, .i .i64 k)], [x, y]⟩ => (match kiOf x, kiOf y with
    | some a, some b => Chk (ok28 b k) ∧ br (decide (0 ≤ Brd.seek 600 0 b)) (K Exit.ret (s133 (Brd.seek 600 0 b) (Brd.seek 600 0 b) a (b.pulses (Brd.seek 600 0 b).toNat))) (K (Exit.exit 0) (s133 z 600 a (b.pulses 600)))
    | _, _ => False)
  | _ => False
def l133 : LCon := ⟨[2, 3, 8], pt133⟩
theorem in133 (gam : List (Nat × Con)) (loop : List (Nat × Nat × LCon)) : LoopIn (EB gam loop) (133, 3, l133) := by
  refine loop_in gQ_ok 1 Tryd.func133 (by kernel_rfl) fun s K hp => ?_
  change pt133 s K at hp
  unfold pt133 at hp
  split at hp
  · rename_i z k x y
    split at hp
    · rename_i a b ha hb
      obtain ⟨⟨hf, rfl⟩, k1⟩ := hp
      rw [kiOf_some ha, kiOf_some hb]
      have r := seek_range 600 0 b (by omega)
      refine loop133 K z a b hf 600 0 (by omega) (fun h => ?_) (fun h => ?_)
      · change 0 ≤ Brd.seek 600 0 b at h
        rw [show decide (0 ≤ Brd.seek 600 0 b) = true by simpa using h, br_t] at k1
        exact k1
      · change Brd.seek 600 0 b = -1 at h
        rw [show decide (0 ≤ Brd.seek 600 0 b) = false by rw [h]; rfl, br_f] at k1
        exact k1
    · exact hp.elim
  · exact hp.elim
def LI : List (Nat × Nat × LCon) := [(28, 4, l28), (133, 3, l133)]
theorem LI_ok (gam : List (Nat × Con)) : LoopsOK (EB gam LI) := loops_ok rfl ⟨in28 _ _, in133 _ _, trivial⟩
def gR : List (Nat × Con) := (25, cClock) :: gQ
theorem gR_ok : GamOK (EB gR noLoop) := gam_ok rfl ⟨con25.of, con26.of, con129.of, con56.of, con131.of, con24.of, con19.of, con20.of, con21.of, con41.of, con22.of, con23.of, con50.of, con51.of, con52.of, con53.of, trivial⟩
theorem gRI_ok : GamOK (EB gR LI) := gam_ok rfl ⟨con25.of, con26.of, con129.of, con56.of, con131.of, con24.of, con19.of, con20.of, con21.of, con41.of, con22.of, con23.of, con50.of, con51.of, con52.of, con53.of, trivial⟩

theorem t28 (b : Brd) (z : SV) : (bodyK (EB gR LI) (callN (EB gR LI) 1) 28 Tryd.f28 [b.sv] [] (fun y _ => onB (y.cl 0) (y = z))) = (
  Chk b.fit ∧ br (!b.valid) (SV.i IntKind.i64 (-1) = z) (Chk (ok28 b 0) ∧ br (b.kind == 4) (br (decide (0 ≤ Brd.seek 601 0 b)) (SV.i IntKind.i64 (Brd.seek 601 0 b) = z) (SV.i IntKind.i64 (-1) = z)) (Chk (b.irq = false) ∧ SV.i IntKind.i64 (-1) = z))) := by kernel_rfl
theorem t133 (b : Brd) (Z : SV → Brd → Prop) : (bodyK (EB gR LI) (callN (EB gR LI) 1) 133 Tryd.f133 [.ptr 0 []] [ki b] (onK Z)) = (
  Chk (ok28 b 0) ∧ br (decide (0 ≤ Brd.seek 600 0 b)) (Z (SV.i IntKind.i64 (Brd.seek 600 0 b)) b) (Z (SV.i IntKind.i64 (-1)) b)) := by kernel_rfl

end Go.Sx

namespace Go.Sx
open Go.Proofs
set_option linter.unusedVariables false
set_option linter.unusedSimpArgs false
set_option maxRecDepth 100000
theorem pulses_pulse (b : Brd) (n : Nat) : b.pulse.pulses n = b.pulses (n + 1) := rfl
theorem seek_none : ∀ (f : Nat) (k : Int) (b : Brd), 0 ≤ k → Brd.seek f k b = -1 → ∀ j, j < f → (b.pulses j).irq = false
  | 0, k, b, h, e, j, hj => by omega
  | f + 1, k, b, h, e, j, hj => by
    unfold Brd.seek at e
    split at e
    · omega
    · rename_i c
      cases j with
      | zero => exact Bool.eq_false_iff.2 c
      | succ j => rw [← pulses_pulse]; exact seek_none f (k + 1) b.pulse (by omega) e j (by omega)
theorem seek_succ : ∀ (f : Nat) (k : Int) (b : Brd), 0 ≤ k → Brd.seek (f + 1) k b = if Brd.seek f k b = -1 then (if (b.pulses f).irq = true then k + f else -1) else Brd.seek f k b
  | 0, k, b, h => by
    show (if b.irq = true then k else -1) = if (-1 : Int) = -1 then (if b.irq = true then k + (0 : Nat) else -1) else -1
    rw [if_pos rfl]; simp
  | f + 1, k, b, h => by
    have i := seek_succ f (k + 1) b.pulse (by omega)
    show (if b.irq = true then k else Brd.seek (f + 1) (k + 1) b.pulse) = if (if b.irq = true then k else Brd.seek f (k + 1) b.pulse) = -1 then (if (b.pulses (f + 1)).irq = true then k + (f + 1 : Nat) else -1) else (if b.irq = true then k else Brd.seek f (k + 1) b.pulse)
    by_cases c : b.irq = true
    · simp only [if_pos c]
      rw [if_neg (by omega)]
    · simp only [if_neg c]
      rw [i, pulses_pulse]
      have : k + 1 + (f : Int) = k + ((f + 1 : Nat) : Int) := by omega
      rw [this]
theorem irq_never {b : Brd} (h : b.fit) {t : Nat} (ht : 514 ≤ t) : (b.pulses t).irq = (b.pulses 514).irq := by
  have h1 := h.iLatch
  have h2 := h.iCount
  unfold u8 at h1 h2
  exact it_never h1.1 h1.2 b.cnt h2.1 h2.2 t ht
theorem seek_601 {b : Brd} (h : b.fit) : Brd.seek 601 0 b = Brd.seek 600 0 b := by
  rw [seek_succ 600 0 b (by omega)]
  by_cases c : Brd.seek 600 0 b = -1
  · rw [if_pos c, if_neg, c]
    rw [irq_never h (by omega), ← irq_never h (t := 599) (by omega), seek_none 600 0 b (by omega) c 599 (by omega)]
    simp
  · rw [if_neg c]
/-- ToIrq. -/
def Brd.toIrqN (b : Brd) : Int := if b.valid = true ∧ b.kind = 4 then Brd.seek 600 0 b else -1
theorem seek_or (b : Brd) (f : Nat) : (if 0 ≤ Brd.seek f 0 b then Brd.seek f 0 b else -1) = Brd.seek f 0 b := by
  have := seek_range f 0 b (by omega)
  split <;> omega
theorem p133 (b : Brd) (u : Unit) (h : b.fit) : Chk (bodyK (EB gR LI) (callN (EB gR LI) 1) 133 Tryd.f133 (.ptr 0 [] :: e0 u) [ki b] (onK fun x b' => x = .i .i64 (Brd.seek 600 0 b) ∧ b' = b)) := by
  constructor
  show bodyK (EB gR LI) (callN (EB gR LI) 1) 133 Tryd.f133 [.ptr 0 []] [ki b] (onK fun x b' => x = .i .i64 (Brd.seek 600 0 b) ∧ b' = b)
  rw [t133]
  have r := seek_range 600 0 b (by omega)
  refine ⟨⟨h, rfl⟩, br_in (fun _ => ⟨rfl, rfl⟩) (fun d => ⟨?_, rfl⟩)⟩
  simp at d
  congr 1; omega
def cIrqM : Con := .mth (mthD d0 (fun b _ => b.fit) (fun b _ => .i .i64 (Brd.seek 600 0 b)) (fun b _ => b))
theorem con133 : ConOK (EB gR LI) 133 cIrqM := EBmth (enc := e0) (p := fun b _ => b.fit) (F := fun b _ => .i .i64 (Brd.seek 600 0 b)) (G := fun b _ => b) gRI_ok (LI_ok _) 1 Tryd.func133 d0_ok (fun _ _ => rfl) p133
theorem valid_irq {b : Brd} (h : b.valid = true) (hk : b.kind ≠ 4) : b.irq = false := by
  unfold Brd.valid at h
  simp only [Bool.and_eq_true] at h
  have h3 := h.2
  unfold Brd.regs Brd.m3 Brd.m1 at h3
  grind
theorem p28 (b : Brd) (h : b.fit) : Chk (bodyK (EB gR LI) (callN (EB gR LI) 1) 28 Tryd.f28 (eB b) [] (fun y _ => onB (y.cl 0) (y = .i .i64 b.toIrqN))) := by
  constructor
  show bodyK (EB gR LI) (callN (EB gR LI) 1) 28 Tryd.f28 [b.sv] [] (fun y _ => onB (y.cl 0) (y = .i .i64 b.toIrqN))
  rw [t28]
  unfold Brd.toIrqN
  refine ⟨⟨h⟩, br_in (fun v => ?_) (fun v => ⟨⟨h, rfl⟩, br_in (fun k => br_in (fun d => ?_) (fun d => ?_)) (fun k => ?_)⟩)⟩
  · rw [if_neg]; rintro ⟨v2, _⟩; rw [v2] at v; simp at v
  · rw [if_pos ⟨by simpa using v, by simpa using k⟩, seek_601 h]
  · rw [if_pos ⟨by simpa using v, by simpa using k⟩, ← seek_601 h]
    have r := seek_range 601 0 b (by omega)
    simp at d
    congr 1; omega
  · have hk : b.kind ≠ 4 := by simpa using k
    rw [if_neg (fun x => hk x.2)]
    exact ⟨⟨valid_irq (by simpa using v) hk⟩, rfl⟩
def cIrq : Con := .pure (preD dB Brd.fit) (onD dB fun b => .i .i64 b.toIrqN)
theorem con28 : ConOK (EB gR LI) 28 cIrq := EBcon (enc := eB) (p := Brd.fit) (F := fun b => .i .i64 b.toIrqN) gRI_ok (LI_ok _) 1 Tryd.func28 dB_ok p28
def gT' : List (Nat × Con) := (28, cIrq) :: (133, cIrqM) :: gR
theorem gT'_ok : GamOK (EB gT' noLoop) := gam_ok rfl ⟨con28.of, con133.of, con25.of, con26.of, con129.of, con56.of, con131.of, con24.of, con19.of, con20.of, con21.of, con41.of, con22.of, con23.of, con50.of, con51.of, con52.of, con53.of, trivial⟩

theorem t27 (b : Brd) (z : SV) : (bodyK (EB gT' noLoop) (callN (EB gT' noLoop) 3) 27 Tryd.f27 [b.sv] [] (fun y _ => onB (y.cl 0) (y = z))) = (
  Chk b.fit ∧ br (!b.valid) (SV.i IntKind.i64 (-1) = z) (br (b.kind == 1) (SV.i IntKind.i64 (-1) = z) (br (b.kind == 2) (SV.i IntKind.i64 (-1) = z) (br (b.kind == 3) (SV.i IntKind.i64 (-1) = z) (br (b.kind == 4) (Chk b.fit ∧ SV.i IntKind.i64 (Brd.seek 600 0 b) = z) (br (b.kind == 7) (SV.i IntKind.i64 (-1) = z) (SV.i IntKind.i64 (-1) = z))))))) := by kernel_rfl
theorem p27 (b : Brd) (h : b.fit) : Chk (bodyK (EB gT' noLoop) (callN (EB gT' noLoop) 3) 27 Tryd.f27 (eB b) [] (fun y _ => onB (y.cl 0) (y = .i .i64 b.toIrqN))) := by
  constructor
  show bodyK (EB gT' noLoop) (callN (EB gT' noLoop) 3) 27 Tryd.f27 [b.sv] [] (fun y _ => onB (y.cl 0) (y = .i .i64 b.toIrqN))
  rw [t27]
  unfold Brd.toIrqN
  refine ⟨⟨h⟩, br_in (fun v => ?_) (fun v => br_in (fun e => ?_) (fun e => br_in (fun e2 => ?_) (fun e2 => br_in (fun e3 => ?_) (fun e3 => br_in (fun e4 => ⟨⟨h⟩, ?_⟩) (fun e4 => ?_)))))⟩
  · rw [if_neg]; rintro ⟨v2, _⟩; rw [v2] at v; simp at v
  · rw [if_neg]; rintro ⟨_, k⟩; rw [k] at e; simp at e
  · rw [if_neg]; rintro ⟨_, k⟩; rw [k] at e2; simp at e2
  · rw [if_neg]; rintro ⟨_, k⟩; rw [k] at e3; simp at e3
  · rw [if_pos ⟨by simpa using v, by simpa using e4⟩]
  · refine br_in (fun _ => ?_) (fun _ => ?_) <;> (rw [if_neg]; rintro ⟨_, k⟩; rw [k] at e4; simp at e4)
theorem con27 : ConOK (EB gT' noLoop) 27 cIrq := EBcon (enc := eB) (p := Brd.fit) (F := fun b => .i .i64 b.toIrqN) gT'_ok (noLoops _) 3 Tryd.func27 dB_ok p27
def gV : List (Nat × Con) := (27, cIrq) :: gT'
theorem gV_ok : GamOK (EB gV noLoop) := gam_ok rfl ⟨con27.of, con28.of, con133.of, con25.of, con26.of, con129.of, con56.of, con131.of, con24.of, con19.of, con20.of, con21.of, con41.of, con22.of, con23.of, con50.of, con51.of, con52.of, con53.of, trivial⟩

end Go.Sx

namespace Go.Sx
open Go.Proofs
set_option linter.unusedVariables false
set_option linter.unusedSimpArgs false
set_option maxRecDepth 100000

theorem t5 (b : Brd) (n : Int) : bodyK (EB gV noLoop) (callN (EB gV noLoop) 1) 5 Tryd.f5 [b.sv, .i .i64 n] [] (fun y _ => isTrue y) = (
  Chk (okBI b n) ∧
  Chk (okBI b n) ∧
    br
      ((b.clockN n).kind == (b.clockN n).kind &&
          ((b.clockN n).sub == (b.clockN n).sub &&
            ((b.clockN n).hard == (b.clockN n).hard &&
              ((b.clockN n).work == (b.clockN n).work &&
                ((b.clockN n).prg == (b.clockN n).prg &&
                  ((b.clockN n).chr == (b.clockN n).chr &&
                    ((b.clockN n).cram == (b.clockN n).cram &&
                      ((b.clockN n).shift == (b.clockN n).shift &&
                        ((b.clockN n).ctrl == (b.clockN n).ctrl &&
                          ((b.clockN n).chrA == (b.clockN n).chrA &&
                            ((b.clockN n).chrB == (b.clockN n).chrB &&
                              ((b.clockN n).prgR == (b.clockN n).prgR &&
                                ((b.clockN n).last == (b.clockN n).last &&
                                  ((b.clockN n).latch == (b.clockN n).latch &&
                                    ((b.clockN n).sel == (b.clockN n).sel &&
                                      (decide ((b.clockN n).rs = (b.clockN n).rs) &&
                                        ((b.clockN n).turn == (b.clockN n).turn &&
                                          ((b.clockN n).guard == (b.clockN n).guard && ((b.clockN n).iLatch == (b.clockN n).iLatch && ((b.clockN n).iCount == (b.clockN n).iCount && ((b.clockN n).iLoad == (b.clockN n).iLoad && ((b.clockN n).iOn == (b.clockN n).iOn && ((b.clockN n).irq == (b.clockN n).irq && ((b.clockN n).epoch == (b.clockN n).epoch && true))))))))))))))))))))))) &&
        true)
      (Chk b.fit ∧
        br
          ((b.clockN n).kind == (b.clockN n).kind &&
              ((b.clockN n).sub == (b.clockN n).sub &&
                ((b.clockN n).hard == (b.clockN n).hard &&
                  ((b.clockN n).work == (b.clockN n).work &&
                    ((b.clockN n).prg == (b.clockN n).prg &&
                      ((b.clockN n).chr == (b.clockN n).chr &&
                        ((b.clockN n).cram == (b.clockN n).cram &&
                          ((b.clockN n).shift == (b.clockN n).shift &&
                            ((b.clockN n).ctrl == (b.clockN n).ctrl &&
                              ((b.clockN n).chrA == (b.clockN n).chrA &&
                                ((b.clockN n).chrB == (b.clockN n).chrB &&
                                  ((b.clockN n).prgR == (b.clockN n).prgR &&
                                    ((b.clockN n).last == (b.clockN n).last &&
                                      ((b.clockN n).latch == (b.clockN n).latch &&
                                        ((b.clockN n).sel == (b.clockN n).sel &&
                                          (decide ((b.clockN n).rs = (b.clockN n).rs) &&
                                            ((b.clockN n).turn == (b.clockN n).turn &&
                                              ((b.clockN n).guard == (b.clockN n).guard && ((b.clockN n).iLatch == (b.clockN n).iLatch && ((b.clockN n).iCount == (b.clockN n).iCount && ((b.clockN n).iLoad == (b.clockN n).iLoad && ((b.clockN n).iOn == (b.clockN n).iOn && ((b.clockN n).irq == (b.clockN n).irq && ((b.clockN n).epoch == (b.clockN n).epoch && true))))))))))))))))))))))) &&
            true)
          (Chk b.fit ∧
            ((b.clockN n).kind == (b.clockN n).kind &&
                  ((b.clockN n).sub == (b.clockN n).sub &&
                    ((b.clockN n).hard == (b.clockN n).hard &&
                      ((b.clockN n).work == (b.clockN n).work &&
                        ((b.clockN n).prg == (b.clockN n).prg &&
                          ((b.clockN n).chr == (b.clockN n).chr &&
                            ((b.clockN n).cram == (b.clockN n).cram &&
                              ((b.clockN n).shift == (b.clockN n).shift &&
                                ((b.clockN n).ctrl == (b.clockN n).ctrl &&
                                  ((b.clockN n).chrA == (b.clockN n).chrA &&
                                    ((b.clockN n).chrB == (b.clockN n).chrB &&
                                      ((b.clockN n).prgR == (b.clockN n).prgR &&
                                        ((b.clockN n).last == (b.clockN n).last &&
                                          ((b.clockN n).latch == (b.clockN n).latch &&
                                            ((b.clockN n).sel == (b.clockN n).sel &&
                                              (decide ((b.clockN n).rs = (b.clockN n).rs) &&
                                                ((b.clockN n).turn == (b.clockN n).turn &&
                                                  ((b.clockN n).guard == (b.clockN n).guard && ((b.clockN n).iLatch == (b.clockN n).iLatch && ((b.clockN n).iCount == (b.clockN n).iCount && ((b.clockN n).iLoad == (b.clockN n).iLoad && ((b.clockN n).iOn == (b.clockN n).iOn && ((b.clockN n).irq == (b.clockN n).irq && ((b.clockN n).epoch == (b.clockN n).epoch && true))))))))))))))))))))))) &&
                b.toIrqN == b.toIrqN) =
              true)
          (((b.clockN n).kind == (b.clockN n).kind &&
                ((b.clockN n).sub == (b.clockN n).sub &&
                  ((b.clockN n).hard == (b.clockN n).hard &&
                    ((b.clockN n).work == (b.clockN n).work &&
                      ((b.clockN n).prg == (b.clockN n).prg &&
                        ((b.clockN n).chr == (b.clockN n).chr &&
                          ((b.clockN n).cram == (b.clockN n).cram &&
                            ((b.clockN n).shift == (b.clockN n).shift &&
                              ((b.clockN n).ctrl == (b.clockN n).ctrl &&
                                ((b.clockN n).chrA == (b.clockN n).chrA &&
                                  ((b.clockN n).chrB == (b.clockN n).chrB &&
                                    ((b.clockN n).prgR == (b.clockN n).prgR &&
                                      ((b.clockN n).last == (b.clockN n).last &&
                                        ((b.clockN n).latch == (b.clockN n).latch &&
                                          ((b.clockN n).sel == (b.clockN n).sel &&
                                            (decide ((b.clockN n).rs = (b.clockN n).rs) &&
                                              ((b.clockN n).turn == (b.clockN n).turn &&
                                                ((b.clockN n).guard == (b.clockN n).guard && ((b.clockN n).iLatch == (b.clockN n).iLatch && ((b.clockN n).iCount == (b.clockN n).iCount && ((b.clockN n).iLoad == (b.clockN n).iLoad && ((b.clockN n).iOn == (b.clockN n).iOn && ((b.clockN n).irq == (b.clockN n).irq && ((b.clockN n).epoch == (b.clockN n).epoch && true))))))))))))))))))))))) &&
              b.toIrqN == 0) =
            true))
      (br
        ((b.clockN n).kind == (b.clockN n).kind &&
            ((b.clockN n).sub == (b.clockN n).sub &&
              ((b.clockN n).hard == (b.clockN n).hard &&
                ((b.clockN n).work == (b.clockN n).work &&
                  ((b.clockN n).prg == (b.clockN n).prg &&
                    ((b.clockN n).chr == (b.clockN n).chr &&
                      ((b.clockN n).cram == (b.clockN n).cram &&
                        ((b.clockN n).shift == (b.clockN n).shift &&
                          ((b.clockN n).ctrl == (b.clockN n).ctrl &&
                            ((b.clockN n).chrA == (b.clockN n).chrA &&
                              ((b.clockN n).chrB == (b.clockN n).chrB &&
                                ((b.clockN n).prgR == (b.clockN n).prgR &&
                                  ((b.clockN n).last == (b.clockN n).last &&
                                    ((b.clockN n).latch == (b.clockN n).latch &&
                                      ((b.clockN n).sel == (b.clockN n).sel &&
                                        (decide ((b.clockN n).rs = (b.clockN n).rs) &&
                                          ((b.clockN n).turn == (b.clockN n).turn &&
                                            ((b.clockN n).guard == (b.clockN n).guard && ((b.clockN n).iLatch == (b.clockN n).iLatch && ((b.clockN n).iCount == (b.clockN n).iCount && ((b.clockN n).iLoad == (b.clockN n).iLoad && ((b.clockN n).iOn == (b.clockN n).iOn && ((b.clockN n).irq == (b.clockN n).irq && ((b.clockN n).epoch == (b.clockN n).epoch && true))))))))))))))))))))))) &&
          true)
        (Chk b.fit ∧
          ((b.clockN n).kind == (b.clockN n).kind &&
                ((b.clockN n).sub == (b.clockN n).sub &&
                  ((b.clockN n).hard == (b.clockN n).hard &&
                    ((b.clockN n).work == (b.clockN n).work &&
                      ((b.clockN n).prg == (b.clockN n).prg &&
                        ((b.clockN n).chr == (b.clockN n).chr &&
                          ((b.clockN n).cram == (b.clockN n).cram &&
                            ((b.clockN n).shift == (b.clockN n).shift &&
                              ((b.clockN n).ctrl == (b.clockN n).ctrl &&
                                ((b.clockN n).chrA == (b.clockN n).chrA &&
                                  ((b.clockN n).chrB == (b.clockN n).chrB &&
                                    ((b.clockN n).prgR == (b.clockN n).prgR &&
                                      ((b.clockN n).last == (b.clockN n).last &&
                                        ((b.clockN n).latch == (b.clockN n).latch &&
                                          ((b.clockN n).sel == (b.clockN n).sel &&
                                            (decide ((b.clockN n).rs = (b.clockN n).rs) &&
                                              ((b.clockN n).turn == (b.clockN n).turn &&
                                                ((b.clockN n).guard == (b.clockN n).guard && ((b.clockN n).iLatch == (b.clockN n).iLatch && ((b.clockN n).iCount == (b.clockN n).iCount && ((b.clockN n).iLoad == (b.clockN n).iLoad && ((b.clockN n).iOn == (b.clockN n).iOn && ((b.clockN n).irq == (b.clockN n).irq && ((b.clockN n).epoch == (b.clockN n).epoch && true))))))))))))))))))))))) &&
              0 == b.toIrqN) =
            true)
        (((b.clockN n).kind == (b.clockN n).kind &&
              ((b.clockN n).sub == (b.clockN n).sub &&
                ((b.clockN n).hard == (b.clockN n).hard &&
                  ((b.clockN n).work == (b.clockN n).work &&
                    ((b.clockN n).prg == (b.clockN n).prg &&
                      ((b.clockN n).chr == (b.clockN n).chr &&
                        ((b.clockN n).cram == (b.clockN n).cram &&
                          ((b.clockN n).shift == (b.clockN n).shift &&
                            ((b.clockN n).ctrl == (b.clockN n).ctrl &&
                              ((b.clockN n).chrA == (b.clockN n).chrA &&
                                ((b.clockN n).chrB == (b.clockN n).chrB &&
                                  ((b.clockN n).prgR == (b.clockN n).prgR &&
                                    ((b.clockN n).last == (b.clockN n).last &&
                                      ((b.clockN n).latch == (b.clockN n).latch &&
                                        ((b.clockN n).sel == (b.clockN n).sel &&
                                          (decide ((b.clockN n).rs = (b.clockN n).rs) &&
                                            ((b.clockN n).turn == (b.clockN n).turn &&
                                              ((b.clockN n).guard == (b.clockN n).guard && ((b.clockN n).iLatch == (b.clockN n).iLatch && ((b.clockN n).iCount == (b.clockN n).iCount && ((b.clockN n).iLoad == (b.clockN n).iLoad && ((b.clockN n).iOn == (b.clockN n).iOn && ((b.clockN n).irq == (b.clockN n).irq && ((b.clockN n).epoch == (b.clockN n).epoch && true))))))))))))))))))))))) &&
            0 == 0) =
          true))) := by kernel_rfl
theorem w5 (svs : List SV) (h : IsL Tryd.prog 3 [27, 3] svs) : Chk (bodyK (EB gV noLoop) (callN (EB gV noLoop) 1) 5 Tryd.f5 svs [] (fun x _ => isTrue x)) := by
  obtain ⟨a, c, rfl, h1, h2⟩ := isL2 h
  obtain ⟨b, rfl, hb⟩ := is_brd h1
  obtain ⟨n, rfl, hn⟩ := is_int und3 h2
  have hn := inK_i64 hn
  constructor
  rw [t5]
  refine ⟨⟨⟨hb, hn⟩⟩, ⟨⟨hb, hn⟩⟩, ?_⟩
  simp only [beq_self_eq_true, decide_true, Bool.and_self, Bool.and_true, br_t, and_true]
  exact ⟨⟨hb⟩, ⟨hb⟩⟩

end Go.Sx
