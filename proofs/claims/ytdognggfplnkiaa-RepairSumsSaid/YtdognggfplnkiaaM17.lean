/-
  A world as the machine reads it.
-/
import Derived.Test.YtdognggfplnkiaaM16
import Derived.Test.YtdognggfplnkiaaAmC
namespace Go.Proofs.Ytdognggfplnkiaa
open Go.AM
set_option linter.unusedVariables false
set_option linter.unusedSimpArgs false

/-- A world as the machine reads it. -/
abbrev shW : List CSh := [.i .i64, .sl shI, .sl shD, .sl shO, .sl shR]
theorem fits_W {e : List AC} (h : FitsL shW e) : ∃ n l ds os p, e = cWld n l ds os p ∧ l.length ≤ LIM ∧ ds.length ≤ LIM ∧ os.length ≤ LIM ∧ PlanOK p := by
  obtain ⟨x0, r0, rfl, f0, h⟩ := h.cons_inv
  obtain ⟨x1, r1, rfl, f1, h⟩ := h.cons_inv
  obtain ⟨x2, r2, rfl, f2, h⟩ := h.cons_inv
  obtain ⟨x3, r3, rfl, f3, h⟩ := h.cons_inv
  obtain ⟨x4, r4, rfl, f4, h⟩ := h.cons_inv
  cases h.nil_inv
  obtain ⟨n, rfl⟩ := f0.int_inv
  obtain ⟨l, rfl, h1⟩ := fits_rI f1
  obtain ⟨ds, rfl, h2⟩ := fits_rD f2
  obtain ⟨os, rfl, h3⟩ := fits_rO f3
  obtain ⟨p, rfl, h4⟩ := fits_rR f4
  exact ⟨n, l, ds, os, p, rfl, h1, h2, h3, h4⟩
theorem laidOut : laidOutB Try.prog = true := by kernel_rfl
theorem kids : Kids Try.prog (· < Try.prog.types.size) := kids_rows laidOut (by kernel_rfl)
end Go.Proofs.Ytdognggfplnkiaa
