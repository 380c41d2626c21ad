/-
  SxR35: Plays: one round of its loop.
  SxR36: Plays: its loop's contract.
  SxR37: Plays: tree.
  SxR38: Plays returns true, whatever the script.
-/
import Derived.Test.YtmgaphghjhbhhaaRxC
import Derived.Test.YtmgaphghjhbhhaaSxB
namespace Go.Sx
open Go.Proofs
set_option linter.unusedVariables false
set_option linter.unusedSimpArgs false
structure Op3 where
  kind : Int
  n : Int
  v : Int
def Op3.sv (o : Op3) : SV := .agg (.cons (.i .i64 o.kind) (.cons (.i .i64 o.n) (.cons (.i .u8 o.v) .nil)))
def st11 (n : Nat) (f : Nat → Op3) (i : Int) (r s : Ras) : St := ⟨[(0, .ros n (fun j => (f j).sv)), (2, .b false), (3, .ptr 0 []), (4, .ptr 1 []), (5, .i .i64 i)], [r.sv, s.sv]⟩
def keep11 : List Tmp := [0, 2, 3, 4, 5]

theorem tl11 (n : Nat) (f : Nat → Op3) (i : Int) (r : Ras) (N : St → Prop) (X : Kont) : (execC (E0 gB noLoop) (callN (E0 gB noLoop) 1) 11 Try.f11.ntmps (codeL Try.f11 4) (st11 n f i r r) (oneK keep11 2 N X)) = (
  br (decide (i < ↑n))
  (br (inB i n)
    (br ((f i.toNat).kind == 0)
      (Chk (i64 (f i.toNat).n) ∧
        Chk (i64 (f i.toNat).n) ∧
          br
            (IntKind.i64.wrap (r.advN (f i.toNat).n) != IntKind.i64.wrap (r.advN (f i.toNat).n) ||
              !((r.advR (f i.toNat).n).line == (r.advR (f i.toNat).n).line &&
                  ((r.advR (f i.toNat).n).dot == (r.advR (f i.toNat).n).dot && ((r.advR (f i.toNat).n).odd == (r.advR (f i.toNat).n).odd && ((r.advR (f i.toNat).n).vbl == (r.advR (f i.toNat).n).vbl && ((r.advR (f i.toNat).n).nmi == (r.advR (f i.toNat).n).nmi && ((r.advR (f i.toNat).n).draw == (r.advR (f i.toNat).n).draw && ((r.advR (f i.toNat).n).hold == (r.advR (f i.toNat).n).hold && true))))))))
            (X Exit.ret (St.mk [(0, SV.ros n fun j => (f j).sv), (2, SV.b false), (3, SV.ptr 0 []), (4, SV.ptr 1 []), (5, SV.i IntKind.i64 i)] [(r.advR (f i.toNat).n).sv, (r.advR (f i.toNat).n).sv]))
            (True ∧
              True ∧
                br (!(r.advR (f i.toNat).n).up == (r.advR (f i.toNat).n).up) (X Exit.ret (St.mk [(0, SV.ros n fun j => (f j).sv), (2, SV.b false), (3, SV.ptr 0 []), (4, SV.ptr 1 []), (5, SV.i IntKind.i64 i)] [(r.advR (f i.toNat).n).sv, (r.advR (f i.toNat).n).sv]))
                  (N (St.mk [(0, SV.ros n fun j => (f j).sv), (2, SV.b false), (3, SV.ptr 0 []), (4, SV.ptr 1 []), (5, SV.i IntKind.i64 (IntKind.i64.wrap (i + 1)))] [(r.advR (f i.toNat).n).sv, (r.advR (f i.toNat).n).sv]))))
      (br ((f i.toNat).kind == 1)
        (True ∧
          True ∧
            br (IntKind.i64.wrap r.stV != IntKind.i64.wrap r.stV || !(r.stR.line == r.stR.line && (r.stR.dot == r.stR.dot && (r.stR.odd == r.stR.odd && (r.stR.vbl == r.stR.vbl && (r.stR.nmi == r.stR.nmi && (r.stR.draw == r.stR.draw && (r.stR.hold == r.stR.hold && true))))))))
              (X Exit.ret (St.mk [(0, SV.ros n fun j => (f j).sv), (2, SV.b false), (3, SV.ptr 0 []), (4, SV.ptr 1 []), (5, SV.i IntKind.i64 i)] [r.stR.sv, r.stR.sv]))
              (True ∧ True ∧ br (!r.stR.up == r.stR.up) (X Exit.ret (St.mk [(0, SV.ros n fun j => (f j).sv), (2, SV.b false), (3, SV.ptr 0 []), (4, SV.ptr 1 []), (5, SV.i IntKind.i64 i)] [r.stR.sv, r.stR.sv])) (N (St.mk [(0, SV.ros n fun j => (f j).sv), (2, SV.b false), (3, SV.ptr 0 []), (4, SV.ptr 1 []), (5, SV.i IntKind.i64 (IntKind.i64.wrap (i + 1)))] [r.stR.sv, r.stR.sv]))))
        (br ((f i.toNat).kind == 2)
          (Chk (u8 (f i.toNat).v) ∧
            Chk (u8 (f i.toNat).v) ∧
              br
                (0 != 0 ||
                  !((r.ctrl (f i.toNat).v).line == (r.ctrl (f i.toNat).v).line &&
                      ((r.ctrl (f i.toNat).v).dot == (r.ctrl (f i.toNat).v).dot &&
                        ((r.ctrl (f i.toNat).v).odd == (r.ctrl (f i.toNat).v).odd && ((r.ctrl (f i.toNat).v).vbl == (r.ctrl (f i.toNat).v).vbl && ((r.ctrl (f i.toNat).v).nmi == (r.ctrl (f i.toNat).v).nmi && ((r.ctrl (f i.toNat).v).draw == (r.ctrl (f i.toNat).v).draw && ((r.ctrl (f i.toNat).v).hold == (r.ctrl (f i.toNat).v).hold && true))))))))
                (X Exit.ret (St.mk [(0, SV.ros n fun j => (f j).sv), (2, SV.b false), (3, SV.ptr 0 []), (4, SV.ptr 1 []), (5, SV.i IntKind.i64 i)] [(r.ctrl (f i.toNat).v).sv, (r.ctrl (f i.toNat).v).sv]))
                (True ∧
                  True ∧
                    br (!(r.ctrl (f i.toNat).v).up == (r.ctrl (f i.toNat).v).up) (X Exit.ret (St.mk [(0, SV.ros n fun j => (f j).sv), (2, SV.b false), (3, SV.ptr 0 []), (4, SV.ptr 1 []), (5, SV.i IntKind.i64 i)] [(r.ctrl (f i.toNat).v).sv, (r.ctrl (f i.toNat).v).sv]))
                      (N (St.mk [(0, SV.ros n fun j => (f j).sv), (2, SV.b false), (3, SV.ptr 0 []), (4, SV.ptr 1 []), (5, SV.i IntKind.i64 (IntKind.i64.wrap (i + 1)))] [(r.ctrl (f i.toNat).v).sv, (r.ctrl (f i.toNat).v).sv]))))
          (br ((f i.toNat).kind == 3)
            (Chk (u8 (f i.toNat).v) ∧
              Chk (u8 (f i.toNat).v) ∧
                br
                  (0 != 0 ||
                    !((r.mask (f i.toNat).v).line == (r.mask (f i.toNat).v).line &&
                        ((r.mask (f i.toNat).v).dot == (r.mask (f i.toNat).v).dot &&
                          ((r.mask (f i.toNat).v).odd == (r.mask (f i.toNat).v).odd && ((r.mask (f i.toNat).v).vbl == (r.mask (f i.toNat).v).vbl && ((r.mask (f i.toNat).v).nmi == (r.mask (f i.toNat).v).nmi && ((r.mask (f i.toNat).v).draw == (r.mask (f i.toNat).v).draw && ((r.mask (f i.toNat).v).hold == (r.mask (f i.toNat).v).hold && true))))))))
                  (X Exit.ret (St.mk [(0, SV.ros n fun j => (f j).sv), (2, SV.b false), (3, SV.ptr 0 []), (4, SV.ptr 1 []), (5, SV.i IntKind.i64 i)] [(r.mask (f i.toNat).v).sv, (r.mask (f i.toNat).v).sv]))
                  (True ∧
                    True ∧
                      br (!(r.mask (f i.toNat).v).up == (r.mask (f i.toNat).v).up) (X Exit.ret (St.mk [(0, SV.ros n fun j => (f j).sv), (2, SV.b false), (3, SV.ptr 0 []), (4, SV.ptr 1 []), (5, SV.i IntKind.i64 i)] [(r.mask (f i.toNat).v).sv, (r.mask (f i.toNat).v).sv]))
                        (N (St.mk [(0, SV.ros n fun j => (f j).sv), (2, SV.b false), (3, SV.ptr 0 []), (4, SV.ptr 1 []), (5, SV.i IntKind.i64 (IntKind.i64.wrap (i + 1)))] [(r.mask (f i.toNat).v).sv, (r.mask (f i.toNat).v).sv]))))
            (br ((f i.toNat).kind == 4)
              (True ∧
                True ∧
                  br (r.tickN != r.tickN || !(r.tickR.line == r.tickR.line && (r.tickR.dot == r.tickR.dot && (r.tickR.odd == r.tickR.odd && (r.tickR.vbl == r.tickR.vbl && (r.tickR.nmi == r.tickR.nmi && (r.tickR.draw == r.tickR.draw && (r.tickR.hold == r.tickR.hold && true))))))))
                    (X Exit.ret (St.mk [(0, SV.ros n fun j => (f j).sv), (2, SV.b false), (3, SV.ptr 0 []), (4, SV.ptr 1 []), (5, SV.i IntKind.i64 i)] [r.tickR.sv, r.tickR.sv]))
                    (True ∧ True ∧ br (!r.tickR.up == r.tickR.up) (X Exit.ret (St.mk [(0, SV.ros n fun j => (f j).sv), (2, SV.b false), (3, SV.ptr 0 []), (4, SV.ptr 1 []), (5, SV.i IntKind.i64 i)] [r.tickR.sv, r.tickR.sv])) (N (St.mk [(0, SV.ros n fun j => (f j).sv), (2, SV.b false), (3, SV.ptr 0 []), (4, SV.ptr 1 []), (5, SV.i IntKind.i64 (IntKind.i64.wrap (i + 1)))] [r.tickR.sv, r.tickR.sv]))))
              (br (0 != 0 || !(r.line == r.line && (r.dot == r.dot && (r.odd == r.odd && (r.vbl == r.vbl && (r.nmi == r.nmi && (r.draw == r.draw && (r.hold == r.hold && true)))))))) (X Exit.ret (St.mk [(0, SV.ros n fun j => (f j).sv), (2, SV.b false), (3, SV.ptr 0 []), (4, SV.ptr 1 []), (5, SV.i IntKind.i64 i)] [r.sv, r.sv]))
                (True ∧ True ∧ br (!r.up == r.up) (X Exit.ret (St.mk [(0, SV.ros n fun j => (f j).sv), (2, SV.b false), (3, SV.ptr 0 []), (4, SV.ptr 1 []), (5, SV.i IntKind.i64 i)] [r.sv, r.sv])) (N (St.mk [(0, SV.ros n fun j => (f j).sv), (2, SV.b false), (3, SV.ptr 0 []), (4, SV.ptr 1 []), (5, SV.i IntKind.i64 (IntKind.i64.wrap (i + 1)))] [r.sv, r.sv])))))))))
    False)
  (X (Exit.exit 0) (St.mk [(0, SV.ros n fun j => (f j).sv), (2, SV.b false), (3, SV.ptr 0 []), (4, SV.ptr 1 []), (5, SV.i IntKind.i64 i)] [r.sv, r.sv]))) := by kernel_rfl

end Go.Sx

namespace Go.Sx
open Go.Proofs
set_option linter.unusedVariables false
set_option linter.unusedSimpArgs false

def Op3.app (o : Op3) (r : Ras) : Ras :=
  if (o.kind == 0) = true then r.advR o.n else if (o.kind == 1) = true then r.stR else if (o.kind == 2) = true then r.ctrl o.v else if (o.kind == 3) = true then r.mask o.v else if (o.kind == 4) = true then r.tickR else r
def ras0 : Ras := ⟨0, 0, false, false, false, false, false⟩
def play (f : Nat → Op3) : Nat → Ras
  | 0 => ras0
  | j + 1 => (f j).app (play f j)
def okOp (o : Op3) : Prop := i64 o.n ∧ u8 o.v
theorem br_t (a b : Prop) : br true a b = a := rfl
theorem br_f (a b : Prop) : br false a b = b := rfl
def body11 : St → Kont → Prop := execC (E0 gB noLoop) (callN (E0 gB noLoop) 1) 11 Try.f11.ntmps (codeL Try.f11 4)

theorem round11 (n : Nat) (f : Nat → Op3) (j : Nat) (r : Ras) (N : St → Prop) (X : Kont) (h : j < n) (ho : okOp (f j)) (hN : N (st11 n f ((j + 1 : Nat) : Int) ((f j).app r) ((f j).app r))) (hj : (n : Int) ≤ 9223372036854775807) :
    body11 (st11 n f j r r) (oneK keep11 2 N X) := by
  unfold body11
  rw [tl11, Int.toNat_natCast, show inB (j : Int) n = true by simp [inB]; omega, show decide ((j : Int) < n) = true by simp; omega, IntWalk.i64_in ((j : Int) + 1) (by omega)]
  obtain ⟨o1, o2⟩ := ho
  unfold Op3.app at hN
  simp only [bne_self_eq_false, beq_self_eq_true, Bool.and_self, Bool.and_true, Bool.not_true, Bool.or_false, true_and, br_t, br_f]
  refine br_in (fun a => ?_) (fun a => br_in (fun b => ?_) (fun b => br_in (fun c => ?_) (fun c => br_in (fun d => ?_) (fun d => br_in (fun e => ?_) (fun e => ?_)))))
  · rw [if_pos a] at hN
    exact ⟨⟨o1⟩, ⟨o1⟩, hN⟩
  · rw [if_neg (by rw [a]; simp), if_pos b] at hN
    exact hN
  · rw [if_neg (by rw [a]; simp), if_neg (by rw [b]; simp), if_pos c] at hN
    exact ⟨⟨o2⟩, ⟨o2⟩, hN⟩
  · rw [if_neg (by rw [a]; simp), if_neg (by rw [b]; simp), if_neg (by rw [c]; simp), if_pos d] at hN
    exact ⟨⟨o2⟩, ⟨o2⟩, hN⟩
  · rw [if_neg (by rw [a]; simp), if_neg (by rw [b]; simp), if_neg (by rw [c]; simp), if_neg (by rw [d]; simp), if_pos e] at hN
    exact hN
  · rw [if_neg (by rw [a]; simp), if_neg (by rw [b]; simp), if_neg (by rw [c]; simp), if_neg (by rw [d]; simp), if_neg (by rw [e]; simp)] at hN
    exact hN

theorem loop11 (K : Kont) (n : Nat) (f : Nat → Op3) (hn : (n : Int) ≤ 9223372036854775807) (hf : ∀ j, okOp (f j)) (hk : K (Exit.exit 0) (st11 n f n (play f n) (play f n))) :
    ∀ (i j : Nat), j + i = n → ∃ m, roundsN keep11 2 body11 K m (st11 n f j (play f j) (play f j))
  | 0, j, e => by
    refine ⟨1, ?_⟩
    have : j = n := by omega
    subst this
    rw [roundsN_succ]; unfold body11; rw [tl11]
    rw [show decide ((j : Int) < j) = false by simp]
    exact hk
  | i + 1, j, e => by
    obtain ⟨m, hm⟩ := loop11 K n f hn hf hk i (j + 1) (by omega)
    refine ⟨m + 1, ?_⟩
    rw [roundsN_succ]
    exact round11 n f j (play f j) _ K (by omega) (hf j) hm hn

def opOf : SV → Op3
  | .agg (.cons (.i .i64 k) (.cons (.i .i64 n) (.cons (.i .u8 v) .nil))) => ⟨k, n, v⟩
  | _ => ⟨0, 0, 0⟩
def ok11 (n : Nat) (g : Nat → SV) (r s : Ras) (i : Int) : Prop := (n : Int) ≤ 9223372036854775807 ∧ (∀ j, g j = (opOf (g j)).sv ∧ okOp (opOf (g j))) ∧ r = ras0 ∧ s = ras0 ∧ i = 0
def pt11 (s : St) (K : Kont) : Prop := match s with
  | ⟨[(0, .ros n g), (2, .b false), (3, .ptr 0 []), (4, .ptr 1 []), (5, .i .i64 i)], [x, y]⟩ => (match rasOf x, rasOf y with
    | some r, some s => Chk (ok11 n g r s i) ∧ K (Exit.exit 0) (st11 n (fun j => opOf (g j)) n (play (fun j => opOf (g j)) n) (play (fun j => opOf (g j)) n))
    | _, _ => False)
  | _ => False
def l11 : LCon := ⟨keep11, pt11⟩
def L11 : List (Nat × Nat × LCon) := [(11, 4, l11)]
theorem in11 (gam : List (Nat × Con)) (loop : List (Nat × Nat × LCon)) : LoopIn (E0 gam loop) (11, 4, l11) := by
  refine loop_in gB_ok 1 Try.func11 (by kernel_rfl) fun s K hp => ?_
  change pt11 s K at hp
  unfold pt11 at hp
  split at hp
  · rename_i n g i x y
    split at hp
    · rename_i r s hr hs
      obtain ⟨⟨hn, hg, rfl, rfl, rfl⟩, k1⟩ := hp
      rw [rasOf_some hr, rasOf_some hs]
      have e : g = fun j => ((fun j => opOf (g j)) j).sv := funext fun j => (hg j).1
      have := loop11 K n (fun j => opOf (g j)) hn (fun j => (hg j).2) k1 n 0 (by omega)
      unfold st11 at this
      rw [← e] at this
      exact this
    · exact hp.elim
  · exact hp.elim
theorem L11_ok (gam : List (Nat × Con)) : LoopsOK (E0 gam L11) := loops_ok rfl ⟨in11 _ _, trivial⟩

theorem app_valid {o : Op3} {r : Ras} (h : r.valid = true) : (o.app r).valid = true := by
  unfold Op3.app
  split
  · exact advR_valid h _
  · split
    · unfold Ras.stR; rw [if_pos h]
      have h' := h
      rw [valid_iff] at h' ⊢
      have e : (Ras.mk r.line r.dot r.odd false r.nmi r.draw (r.hold || decide (r.pl = 82181))).pl = r.pl := rfl
      refine ⟨h'.1, h'.2.1, h'.2.2.1, h'.2.2.2.1, by simp, fun x => ?_⟩
      simp at x
      rcases x with x | x
      · exact h'.2.2.2.2.2 x
      · exact x
    · split
      · unfold Ras.ctrl; exact valid_with h _ _ _
      · split
        · unfold Ras.mask; exact valid_with h _ _ _
        · split
          · rw [(tick_its h).1]; exact its_valid _ h
          · exact h
theorem play_valid (f : Nat → Op3) : ∀ n, (play f n).valid = true
  | 0 => by rfl
  | n + 1 => app_valid (play_valid f n)
end Go.Sx

namespace Go.Sx
open Go.Proofs
set_option linter.unusedVariables false
set_option linter.unusedSimpArgs false

theorem t11 (n : Nat) (f : Nat → Op3) : bodyK (E0 gB L11) (callN (E0 gB L11) 1) 11 Try.f11 [.ros n (fun j => (f j).sv)] [] (fun x _ => isTrue x) = (
  Chk (ok11 n (fun j => (f j).sv) (Ras.mk 0 0 false false false false false) (Ras.mk 0 0 false false false false false) 0) ∧
  br
    ((play (fun j => opOf (f j).sv) n).line == (play (fun j => opOf (f j).sv) n).line &&
        ((play (fun j => opOf (f j).sv) n).dot == (play (fun j => opOf (f j).sv) n).dot &&
          ((play (fun j => opOf (f j).sv) n).odd == (play (fun j => opOf (f j).sv) n).odd &&
            ((play (fun j => opOf (f j).sv) n).vbl == (play (fun j => opOf (f j).sv) n).vbl && ((play (fun j => opOf (f j).sv) n).nmi == (play (fun j => opOf (f j).sv) n).nmi && ((play (fun j => opOf (f j).sv) n).draw == (play (fun j => opOf (f j).sv) n).draw && ((play (fun j => opOf (f j).sv) n).hold == (play (fun j => opOf (f j).sv) n).hold && true)))))) &&
      true)
    (True ∧
      ((play (fun j => opOf (f j).sv) n).line == (play (fun j => opOf (f j).sv) n).line &&
            ((play (fun j => opOf (f j).sv) n).dot == (play (fun j => opOf (f j).sv) n).dot &&
              ((play (fun j => opOf (f j).sv) n).odd == (play (fun j => opOf (f j).sv) n).odd &&
                ((play (fun j => opOf (f j).sv) n).vbl == (play (fun j => opOf (f j).sv) n).vbl && ((play (fun j => opOf (f j).sv) n).nmi == (play (fun j => opOf (f j).sv) n).nmi && ((play (fun j => opOf (f j).sv) n).draw == (play (fun j => opOf (f j).sv) n).draw && ((play (fun j => opOf (f j).sv) n).hold == (play (fun j => opOf (f j).sv) n).hold && true)))))) &&
          (play (fun j => opOf (f j).sv) n).valid) =
        true)
    (((play (fun j => opOf (f j).sv) n).line == (play (fun j => opOf (f j).sv) n).line &&
          ((play (fun j => opOf (f j).sv) n).dot == (play (fun j => opOf (f j).sv) n).dot &&
            ((play (fun j => opOf (f j).sv) n).odd == (play (fun j => opOf (f j).sv) n).odd &&
              ((play (fun j => opOf (f j).sv) n).vbl == (play (fun j => opOf (f j).sv) n).vbl && ((play (fun j => opOf (f j).sv) n).nmi == (play (fun j => opOf (f j).sv) n).nmi && ((play (fun j => opOf (f j).sv) n).draw == (play (fun j => opOf (f j).sv) n).draw && ((play (fun j => opOf (f j).sv) n).hold == (play (fun j => opOf (f j).sv) n).hold && true)))))) &&
        false) =
      true)) := by kernel_rfl

end Go.Sx

namespace Go.Sx
open Go.Proofs
set_option linter.unusedVariables false
set_option linter.unusedSimpArgs false

theorem ros_congr {S : Sig} {n : Nat} {g g' : Nat → SV} {v : Value} (h : R S (.ros n g) v) (e : ∀ j, j < n → g' j = g j) : R S (.ros n g') v := by
  have h' : Rf S (.ros n g) [v] := h
  show Rf S (.ros n g') [v]
  simp only [Rf] at h' ⊢
  obtain ⟨a, cap, h1, h2, h3, h4⟩ := h'
  exact ⟨a, cap, h1, h2, h3, fun j hj => by rw [e j hj]; exact h4 j hj⟩

theorem und41 : Try.prog.underlying 41 = some (.slice 43) := by kernel_rfl
theorem und43 : fTys Try.prog 43 = some [3, 3, 5] := by kernel_rfl

theorem is_op {d : Nat} {sv : SV} (h : Is Try.prog (d + 2) 43 sv) : ∃ o : Op3, sv = o.sv ∧ okOp o := by
  obtain ⟨l, rfl, g0⟩ := is_struct und43 h
  obtain ⟨a1, l1, rfl, h1, g1⟩ := g0
  obtain ⟨a2, l2, rfl, h2, g2⟩ := g1
  obtain ⟨a3, l3, rfl, h3, g3⟩ := g2
  cases g3
  obtain ⟨n1, rfl, k1⟩ := is_int und3 h1
  obtain ⟨n2, rfl, k2⟩ := is_int und3 h2
  obtain ⟨n3, rfl, k3⟩ := is_int und5 h3
  exact ⟨⟨n1, n2, n3⟩, rfl, inK_i64 k2, inK_u8 k3⟩

theorem opOf_sv (o : Op3) : opOf o.sv = o := rfl

theorem gB11_ok : GamOK (E0 gB L11) :=
  gam_ok rfl ⟨con32.of, con33.of, con30.of, con31.of, con34.of, con35.of, con15.of, con16.of, con21.of, con18.of, con22.of, con17.of, con29.of, con19.of, con20.of, con36.of, con25.of, con26.of, con23.of, con24.of, con27.of, con28.of, trivial⟩

theorem k11 (n : Nat) (f : Nat → Op3) (hn : (n : Int) ≤ 9223372036854775807) (hf : ∀ j, okOp (f j)) : bodyK (E0 gB L11) (callN (E0 gB L11) 1) 11 Try.f11 [.ros n (fun j => (f j).sv)] [] (fun x _ => isTrue x) := by
  rw [t11]
  refine ⟨⟨hn, fun j => ⟨rfl, hf j⟩, rfl, rfl, rfl⟩, ?_⟩
  simp only [beq_self_eq_true, Bool.and_self, Bool.and_true, br_t, play_valid, true_and]

theorem w11 {svs : List SV} (hI : IsL Try.prog 3 [41] svs) {S : Sig} {vs : List Value} (hR : All2 (R S) svs vs) : ∃ svs', All2 (R S) svs' vs ∧ bodyK (E0 gB L11) (callN (E0 gB L11) 1) 11 Try.f11 svs' [] (fun x _ => isTrue x) := by
  obtain ⟨a, rfl, h1⟩ := isL1 hI
  have h2 := h1
  simp only [Is, und41] at h2
  split at h2
  · rename_i k hk
    have := und43
    unfold fTys at this; rw [hk] at this; simp at this
  obtain ⟨n, g, rfl, hn, hg⟩ := h2
  have hg' : ∀ j, ∃ o : Op3, okOp o ∧ (j < n → g j = o.sv) := by
    intro j
    by_cases c : j < n
    · obtain ⟨o, e1, e2⟩ := is_op (d := 0) (sv := g j) (hg j c)
      exact ⟨o, e2, fun _ => e1⟩
    · exact ⟨⟨0, 0, 0⟩, ⟨⟨by decide, by decide⟩, ⟨by decide, by decide⟩⟩, fun x => (c x).elim⟩
  cases hR with
  | cons r1 r2 =>
    refine ⟨[.ros n (fun j => (hg' j).choose.sv)], .cons (ros_congr r1 fun j hj => ((hg' j).choose_spec.2 hj).symm) r2, k11 n _ ?_ fun j => (hg' j).choose_spec.1⟩
    have : n ≤ maxLen := hn
    unfold maxLen at this
    omega
end Go.Sx
