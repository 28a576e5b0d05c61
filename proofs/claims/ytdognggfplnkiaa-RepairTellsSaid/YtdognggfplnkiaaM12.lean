/-
  'RepairTells' answers true, whatever the world is: both Totals are the one spec's. No condition.
-/
import Derived.Test.YtdognggfplnkiaaF11
import Derived.Test.YtdognggfplnkiaaAmC
namespace Go.Proofs.Ytdognggfplnkiaa
open Go.AM
set_option linter.unusedVariables false
set_option linter.unusedSimpArgs false

theorem tells_ok (n : Int) {l : List Int} (hl : l.length ≤ LIM) {ds : List Drv} (hd : ds.length ≤ LIM) {os : List Ord} (ho : os.length ≤ LIM) {p : List Rte} (hp : PlanOK p) : Contract Try.prog 4 [.agg (cWld n l ds os p)] [] (aBool true) [] := by
  refine tells_c n l ds os p ?_
  simp only [tells_te, bnd_some', bnd_none', bnd_map', ite_true', ite_false', sel_true', sel_false', optK_some, optK_none, getE_rI, len_rI, szL_rI, getE_rO, len_rO, szL_rO, getE_rD, len_rD, szL_rD, getE_rS, len_rS, szL_rS, getE_rV, len_rV, szL_rV, getE_rR, len_rR, szL_rR, szCk_rI, szCk_rO, szCk_rD, szCk_rS, szCk_rV, ckR_rI, ckR_rO, ckR_rS, ckR_rV, take_rO, take_rS, gO_0, gO_1, gO_2, gO_3, gO_4, gO_5, gO_6, gO_7, gO_8, gO_9, gD_0, gD_1, gD_2, gD_3, gD_4, gD_5, gS_0, gS_1, gV_0, gV_1, gV_2, gV_3, gV_4, gV_5, gW_0, gW_1, gSi_0, gSi_1, gSi_2, gSi_3, gSp_0, gSp_1, gSp_2, gSp_3, gF_0, gF_1, gR_0, gR_1, gR_2, cInt_I, Option.map_some, Int.toNat_natCast, Int.ofNat_lt, Int.natCast_nonneg, decide_true, decide_false, and_self, List.length_append, List.length_cons, List.length_nil, Nat.zero_add, Nat.add_zero, Bool.true_or, Bool.false_or, Bool.true_and, Bool.false_and, aInt_eq, aBool_eq, dI_rI hl, dD_rD hd, dO_rO ho, dR_rR hp]
  cases h : (newE n l == 0)
  · simp
  · have hm := newE_mapOK (eq_of_beq h)
    simp [dM_rI hm]
/-- A world as the machine reads it. -/
abbrev shW : List CSh := [.i .i64, .sl shI, .sl shD, .sl shO, .sl shR]
theorem fits_W {e : List AC} (h : FitsL shW e) : ∃ n l ds os p, e = cWld n l ds os p ∧ l.length ≤ LIM ∧ ds.length ≤ LIM ∧ os.length ≤ LIM ∧ PlanOK p := by
  obtain ⟨x0, r0, rfl, f0, h⟩ := h.cons_inv
  obtain ⟨x1, r1, rfl, f1, h⟩ := h.cons_inv
  obtain ⟨x2, r2, rfl, f2, h⟩ := h.cons_inv
  obtain ⟨x3, r3, rfl, f3, h⟩ := h.cons_inv
  obtain ⟨x4, r4, rfl, f4, h⟩ := h.cons_inv
  cases h.nil_inv
  obtain ⟨n, rfl⟩ := f0.int_inv
  obtain ⟨l, rfl, h1⟩ := fits_rI f1
  obtain ⟨ds, rfl, h2⟩ := fits_rD f2
  obtain ⟨os, rfl, h3⟩ := fits_rO f3
  obtain ⟨p, rfl, h4⟩ := fits_rR f4
  exact ⟨n, l, ds, os, p, rfl, h1, h2, h3, h4⟩
theorem laidOut : laidOutB Try.prog = true := by kernel_rfl
theorem kids : Kids Try.prog (· < Try.prog.types.size) := kids_rows laidOut (by kernel_rfl)
end Go.Proofs.Ytdognggfplnkiaa
