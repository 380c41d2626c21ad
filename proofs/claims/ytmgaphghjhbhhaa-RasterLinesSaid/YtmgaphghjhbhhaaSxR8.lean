/- SxR8: Toggled, Touched, Dots return true. -/
import Derived.Test.YtmgaphghjhbhhaaSxR7
import Derived.Test.YtmgaphghjhbhhaaSx16
namespace Go.Sx
open Go.Proofs
set_option linter.unusedVariables false
set_option linter.unusedSimpArgs false

theorem g4_ok : GamOK (E0 g4 noLoop) :=
  gam_ok rfl ⟨con15.of, con16.of, con21.of, con18.of, con22.of, con17.of, con29.of, con19.of, con20.of, con36.of, con25.of, con26.of, con23.of, con24.of, con27.of, con28.of, trivial⟩

theorem inK_i64 {n : Int} (h : inK .i64 n) : i64 n := by simpa [inK, i64, IntKind.min, IntKind.max, IntKind.signed, IntKind.bits] using h
theorem inK_u8 {n : Int} (h : inK .u8 n) : u8 n := by simpa [inK, u8, IntKind.min, IntKind.max, IntKind.signed, IntKind.bits] using h

/-- The argument types of this seat. -/
theorem is_bool {T : TypeId} {d : Nat} {sv : SV} (hu : Try.prog.underlying T = some .bool) (h : Is Try.prog (d + 1) T sv) : ∃ b, sv = .b b := by
  simp only [Is, hu] at h; exact h
theorem is_int {T : TypeId} {k : IntKind} {d : Nat} {sv : SV} (hu : Try.prog.underlying T = some (.int k)) (h : Is Try.prog (d + 1) T sv) : ∃ n, sv = .i k n ∧ inK k n := by
  simp only [Is, hu] at h; exact h
theorem und3 : Try.prog.underlying 3 = some (.int .i64) := by kernel_rfl
theorem und4 : Try.prog.underlying 4 = some .bool := by kernel_rfl
theorem und5 : Try.prog.underlying 5 = some (.int .u8) := by kernel_rfl
def fTys (P : Program) (T : TypeId) : Option (List TypeId) := match P.underlying T with
  | some (.struct fs) => some (fs.toList.map (·.type))
  | _ => none
def IsT (is : TypeId → SV → Prop) : List TypeId → SVs → Prop
  | [], l => l = .nil
  | t :: tl, l => ∃ a r, l = .cons a r ∧ is t a ∧ IsT is tl r
theorem IsF_T {is : TypeId → SV → Prop} : ∀ {fs : List Field} {l : SVs}, IsF is fs l → IsT is (fs.map (·.type)) l
  | [], l, h => h
  | f :: fs, l, h => by
    obtain ⟨a, r, h1, h2, h3⟩ := h
    exact ⟨a, r, h1, h2, IsF_T h3⟩
theorem is_struct {P : Program} {T : TypeId} {ts : List TypeId} {d : Nat} {sv : SV} (hu : fTys P T = some ts) (h : Is P (d + 1) T sv) : ∃ l, sv = .agg l ∧ IsT (Is P d) ts l := by
  unfold fTys at hu
  split at hu
  · rename_i fs hf
    simp at hu; subst hu
    simp only [Is, hf] at h
    obtain ⟨l, h1, h2⟩ := h
    exact ⟨l, h1, IsF_T h2⟩
  · simp at hu
theorem und23 : fTys Try.prog 23 = some [3, 3, 4, 4, 4, 4, 4] := by kernel_rfl
theorem is_ras {d : Nat} {sv : SV} (h : Is Try.prog (d + 2) 23 sv) : ∃ r : Ras, sv = r.sv ∧ r.fit := by
  obtain ⟨l, rfl, g0⟩ := is_struct und23 h
  obtain ⟨a1, l1, rfl, h1, g1⟩ := g0
  obtain ⟨a2, l2, rfl, h2, g2⟩ := g1
  obtain ⟨a3, l3, rfl, h3, g3⟩ := g2
  obtain ⟨a4, l4, rfl, h4, g4⟩ := g3
  obtain ⟨a5, l5, rfl, h5, g5⟩ := g4
  obtain ⟨a6, l6, rfl, h6, g6⟩ := g5
  obtain ⟨a7, l7, rfl, h7, g7⟩ := g6
  cases g7
  obtain ⟨n1, rfl, k1⟩ := is_int und3 h1
  obtain ⟨n2, rfl, k2⟩ := is_int und3 h2
  obtain ⟨b3, rfl⟩ := is_bool und4 h3
  obtain ⟨b4, rfl⟩ := is_bool und4 h4
  obtain ⟨b5, rfl⟩ := is_bool und4 h5
  obtain ⟨b6, rfl⟩ := is_bool und4 h6
  obtain ⟨b7, rfl⟩ := is_bool und4 h7
  exact ⟨⟨n1, n2, b3, b4, b5, b6, b7⟩, rfl, inK_i64 k1, inK_i64 k2⟩

theorem isL1 {P : Program} {d : Nat} {t : TypeId} {l : List SV} (h : IsL P d [t] l) : ∃ a, l = [a] ∧ Is P d t a := by
  obtain ⟨a, r, rfl, h1, h2⟩ := h
  cases h2
  exact ⟨a, rfl, h1⟩
theorem isL2 {P : Program} {d : Nat} {t t' : TypeId} {l : List SV} (h : IsL P d [t, t'] l) : ∃ a b, l = [a, b] ∧ Is P d t a ∧ Is P d t' b := by
  obtain ⟨a, r, rfl, h1, h2⟩ := h
  obtain ⟨b, rfl, h3⟩ := isL1 h2
  exact ⟨a, b, rfl, h1, h3⟩
theorem isL3 {P : Program} {d : Nat} {t t' t'' : TypeId} {l : List SV} (h : IsL P d [t, t', t''] l) : ∃ a b c, l = [a, b, c] ∧ Is P d t a ∧ Is P d t' b ∧ Is P d t'' c := by
  obtain ⟨a, r, rfl, h1, h2⟩ := h
  obtain ⟨b, c, rfl, h3, h4⟩ := isL2 h2
  exact ⟨a, b, c, rfl, h1, h3, h4⟩

theorem w4 (svs : List SV) (h : IsL Try.prog 3 [23, 5] svs) : bodyK (E0 g4 noLoop) (callN (E0 g4 noLoop) 1) 4 Try.f4 svs [] (fun x _ => isTrue x) := by
  obtain ⟨a, b, rfl, h1, h2⟩ := isL2 h
  obtain ⟨r, rfl, hr⟩ := is_ras h1
  obtain ⟨v, rfl, hv⟩ := is_int und5 h2
  have hv := inK_u8 hv
  rw [t4]
  refine ⟨trivial, trivial, ⟨hv⟩, ⟨hv⟩, ⟨hv⟩, ⟨hv⟩, ?_⟩
  simp

theorem w5 (svs : List SV) (h : IsL Try.prog 3 [23] svs) : bodyK (E0 g4 noLoop) (callN (E0 g4 noLoop) 1) 5 Try.f5 svs [] (fun x _ => isTrue x) := by
  obtain ⟨a, rfl, h1⟩ := isL1 h
  obtain ⟨r, rfl, hr⟩ := is_ras h1
  rw [t5]
  refine ⟨trivial, trivial, trivial, trivial, trivial, trivial, ?_⟩
  simp
end Go.Sx
