/- SxR0: the raster's seat: its tables. -/
import Derived.Test.YtmgaphghjhbhhaaChecked
import Derived.Test.YtmgaphghjhbhhaaSx15
import Derived.KernelRfl
namespace Go.Sx
open Go.Proofs
set_option linter.unusedVariables false
set_option linter.unusedSimpArgs false

/-- A fork of a walk. -/
def br (c : Bool) (a b : Prop) : Prop := match c with
  | true => a
  | false => b

def svs (l : List SV) : SVs := SVs.ofList l
def zInt : SV := .i .i64 0
def zU8 : SV := .i .u8 0
def zRas : SV := .agg (.cons zInt (.cons zInt (.cons (.b false) (.cons (.b false) (.cons (.b false) (.cons (.b false) (.cons (.b false) .nil)))))))
def zBeam : SV := .agg (.cons zRas (.cons (.b false) .nil))
def zFns : SV := .agg (.cons .nilf (.cons .nilf (.cons .nilf (.cons .nilf (.cons .nilf .nil)))))
def zTab : List (Nat × SV) := [(3, zInt), (4, .b false), (5, zU8), (23, zRas), (47, zBeam), (49, zFns)]

noncomputable def E0 (gam : List (Nat × Con)) (loop : List (Nat × Nat × LCon)) : Env :=
  { P := Try.prog, zero := lookN zTab, glob := fun _ => none, meth := fun _ _ => none, gam := lookN gam, loop := lookL2 loop }

theorem zTab_ok : allN' (fun T z => ((Try.prog.info? T).bind (·.zero)) = some z.toV ∧ z.isFlat = true) zTab :=
  ⟨⟨by kernel_rfl, by kernel_rfl⟩, ⟨by kernel_rfl, by kernel_rfl⟩, ⟨by kernel_rfl, by kernel_rfl⟩, ⟨by kernel_rfl, by kernel_rfl⟩, ⟨by kernel_rfl, by kernel_rfl⟩, ⟨by kernel_rfl, by kernel_rfl⟩, trivial⟩

theorem E0_ok (gam : List (Nat × Con)) (loop : List (Nat × Nat × LCon)) : EnvOK (E0 gam loop) :=
  { mixed := by kernel_rfl
    zero := zeros_ok zTab_ok
    meth := fun t name g d h => by simp [E0] at h }

theorem E0_glob (gam : List (Nat × Con)) (loop : List (Nat × Nat × LCon)) (S : Sig) : Glob (E0 gam loop) S := fun g t h => by simp [E0] at h

/-- A raster. -/
structure Ras where
  line : Int
  dot : Int
  odd : Bool
  vbl : Bool
  nmi : Bool
  draw : Bool
  hold : Bool

def Ras.sv (r : Ras) : SV := .agg (.cons (.i .i64 r.line) (.cons (.i .i64 r.dot) (.cons (.b r.odd) (.cons (.b r.vbl) (.cons (.b r.nmi) (.cons (.b r.draw) (.cons (.b r.hold) .nil)))))))

/-- What is asked of a call. -/
structure Chk (p : Prop) : Prop where
  ok : p

def rsv (l d : Int) (o v n w h : Bool) : SV := .agg (.cons (.i .i64 l) (.cons (.i .i64 d) (.cons (.b o) (.cons (.b v) (.cons (.b n) (.cons (.b w) (.cons (.b h) .nil)))))))

end Go.Sx
