/-
  'RepairSums' answers true, whatever the world is: the Total is the sum of what the routes cost. No condition.
-/
import Derived.Test.YtdognggfplnkiaaF16
namespace Go.Proofs.Ytdognggfplnkiaa
open Go.AM
set_option linter.unusedVariables false
set_option linter.unusedSimpArgs false

def inSum (n : Int) (l : List Int) (os : List Ord) (r : Rte) : List Drv → Int
  | [] => 0
  | d :: B => (if d.id == r.drv then wayGo n l os d.home r.stops else 0) + inSum n l os r B
theorem drvsGo_apart (n : Int) : ∀ (B A : List Drv), drvsGo n A B = true → ∀ a ∈ A, ∀ b ∈ B, (a.id == b.id) = false
  | [], _, _, _, _, b, hb => by simp at hb
  | x :: B, A, h, a, ha, b, hb => by
    simp only [drvsGo, Bool.and_eq_true, Bool.not_eq_true'] at h
    rcases List.mem_cons.1 hb with rfl | hb
    · exact (List.any_eq_false.1 h.2.1 a ha |> fun h => by simpa using h)
    · exact drvsGo_apart n B (A ++ [x]) h.2.2 a (by simp [ha]) b hb
theorem inSum_zero (n : Int) (l : List Int) (os : List Ord) (r : Rte) : ∀ (B : List Drv), (∀ b ∈ B, (b.id == r.drv) = false) → inSum n l os r B = 0
  | [], _ => rfl
  | d :: B, h => by simp [inSum, h d (by simp), inSum_zero n l os r B fun b hb => h b (by simp [hb])]
theorem inSum_one (n : Int) (l : List Int) (os : List Ord) (r : Rte) : ∀ (B A : List Drv) (d : Drv), drvsGo n A B = true → drvD B r.drv = some d → inSum n l os r B = wayGo n l os d.home r.stops
  | [], _, d, _, h => by simp [drvD] at h
  | x :: B, A, d, hg, h => by
    have hg' := hg
    simp only [drvsGo, Bool.and_eq_true] at hg'
    cases hx : x.id == r.drv
    · have : drvD B r.drv = some d := by simpa [drvD, List.find?_cons, hx] using h
      simp [inSum, hx, inSum_one n l os r B _ d hg'.2.2 this]
    · have hd : x = d := by simpa [drvD, List.find?_cons, hx] using h
      subst hd
      have hz := inSum_zero n l os r B fun b hb => by
        have := drvsGo_apart n B (A ++ [x]) hg'.2.2 x (by simp) b hb
        have e : x.id = r.drv := eq_of_beq hx
        rw [← e]
        cases hh : b.id == x.id
        · rfl
        · rw [eq_of_beq hh] at this; simp at this
      simp [inSum, hx, hz]
theorem drvD_of {n : Int} {ds : List Drv} (hg : drvsGo n [] ds = true) {d d0 : Drv} {x : Int} (hm : d ∈ ds) (hx : d.id = x) (h0 : drvD ds x = some d0) : d = d0 := by
  have key : ∀ (B A : List Drv), drvsGo n A B = true → d ∈ B → drvD B x = some d0 → d = d0 := by
    intro B
    induction B with
    | nil => intro A _ h; simp at h
    | cons y B ih =>
      intro A hg hd h
      have hg' := hg
      simp only [drvsGo, Bool.and_eq_true] at hg'
      cases hy : y.id == x
      · have h' : drvD B x = some d0 := by simpa [drvD, List.find?_cons, hy] using h
        rcases List.mem_cons.1 hd with rfl | hd
        · rw [hx] at hy; simp at hy
        · exact ih _ hg'.2.2 hd h'
      · have e : y = d0 := by simpa [drvD, List.find?_cons, hy] using h
        subst e
        rcases List.mem_cons.1 hd with rfl | hd
        · rfl
        · have := drvsGo_apart n B (A ++ [y]) hg'.2.2 y (by simp) d hd
          rw [eq_of_beq hy, hx] at this; simp at this
  exact key ds [] hg hm h0

theorem sums_in {n : Int} {l : List Int} (hm : mapOK n l = true) {ds : List Drv} (hd : ds.length ≤ 8) {os : List Ord} (ho : os.length ≤ LIM) {p : List Rte} {i : Nat} {r : Rte} (hi : i < 8) (hr : p[i]? = some r) (hst : r.stops.length ≤ 80)
    (hc : ∀ d ∈ ds, (d.id == r.drv) = true → costP n l d os r.stops = some (wayGo n l os d.home r.stops)) {t6 h3 h3_1 : Int} :
    ∀ (B A : List Drv) (s : Int), ds = A ++ B → 0 ≤ s → s ≤ 80000000 * (8 * i + A.length) → Goes C_sums (aBool true) [] (sums_j0 n l ds os p t6 n (rI l) h3 h3_1 ((i + 1 : Nat) : Int) (s + inSum n l os r B)) → Goes C_sums (aBool true) [] (sums_j1 n l ds os p t6 n (rI l) h3 h3_1 s A.length i) := by
  intro B
  have hLIM : LIM = 9223372036854775807 := rfl
  have hw := wrap_nat (n := i) (by omega)
  induction B with
  | nil =>
    intro A s h _ _ k
    rw [List.append_nil] at h; subst h
    apply sums_s1
    simpa [sums_t1, hw, inSum] using k
  | cons d B ih =>
    intro A s h h0 h1 k
    obtain ⟨hlt, hk, h2⟩ := at_split h
    have hw2 := wrap_nat (n := A.length) (by omega)
    have hst' : r.stops.length ≤ LIM := by omega
    apply sums_s1
    simp only [sums_t1, bnd_some', bnd_none', bnd_map', ite_true', ite_false', sel_true', sel_false', optK_some, optK_none, getE_rI, len_rI, szL_rI, getE_rO, len_rO, szL_rO, getE_rD, len_rD, szL_rD, getE_rS, len_rS, szL_rS, getE_rV, len_rV, szL_rV, getE_rR, len_rR, szL_rR, szCk_rI, szCk_rO, szCk_rD, szCk_rS, szCk_rV, ckR_rI, ckR_rO, ckR_rS, ckR_rV, take_rO, take_rS, gO_0, gO_1, gO_2, gO_3, gO_4, gO_5, gO_6, gO_7, gO_8, gO_9, gD_0, gD_1, gD_2, gD_3, gD_4, gD_5, gS_0, gS_1, gV_0, gV_1, gV_2, gV_3, gV_4, gV_5, gW_0, gW_1, gSi_0, gSi_1, gSi_2, gSi_3, gSp_0, gSp_1, gSp_2, gSp_3, gF_0, gF_1, gR_0, gR_1, gR_2, cInt_I, Option.map_some, Int.toNat_natCast, Int.ofNat_lt, Int.natCast_nonneg, decide_true, decide_false, and_self, List.length_append, List.length_cons, List.length_nil, Nat.zero_add, Nat.add_zero, Bool.true_or, Bool.false_or, Bool.true_and, Bool.false_and, aInt_eq, aBool_eq, hlt, hk, hr, hw2, dM_rI hm, dO_rO ho, dS_rS hst', drv_eta, uD_lit]
    cases hid : d.id == r.drv
    · have := ih (A ++ [d]) s h2 h0 (by simp; omega) (by simpa [inSum, hid] using k)
      simpa [hid] using this
    · have hcd := hc d (by rw [h]; simp) hid
      have hy := wayGo_le hm os r.stops d.home
      have hw3 : IntKind.wrap .i64 (s + wayGo n l os d.home r.stops) = s + wayGo n l os d.home r.stops := wrap_in (by omega) (by omega)
      have := ih (A ++ [d]) (s + wayGo n l os d.home r.stops) h2 (by omega) (by simp; omega) (by simpa [inSum, hid, Int.add_assoc] using k)
      simpa [hid, hcd, hw3] using this
theorem sums_loop {n : Int} {l : List Int} (hm : mapOK n l = true) {ds : List Drv} {os : List Ord} (ho : os.length ≤ LIM) {p : List Rte} (hy : (makeP n l ds os p).why = 0) {h3 : Int} :
    ∀ (B A : List Rte) (s : Int), p = A ++ B → 0 ≤ s → s ≤ 80000000 * (8 * A.length) → s + totGo n l ds os B = totGo n l ds os p → Goes C_sums (aBool true) [] (sums_j0 n l ds os p (totGo n l ds os p) n (rI l) h3 0 A.length s) := by
  obtain ⟨ht, hall⟩ := makeP_all hy
  obtain ⟨h8, _, _, hp8, hst, _⟩ := together_p ht
  have hg : drvsGo n [] ds = true := by
    simp only [togetherP, Bool.and_eq_true] at ht; exact ht.2.2.2
  intro B
  induction B with
  | nil =>
    intro A s h h0 h1 h2
    rw [List.append_nil] at h; subst h
    apply sums_s0
    have : totGo n l ds os p = s := by simpa [totGo] using h2.symm
    simp [sums_t0, this]
  | cons r B ih =>
    intro A s h h0 h1 h2
    obtain ⟨hlt, hk, h2'⟩ := at_split h
    obtain ⟨d, hfd, hwhy, hdp⟩ := hall r (by rw [h]; simp)
    have e1 : inSum n l os r ds = wayR n l ds os r := by rw [inSum_one n l os r ds [] d hg hfd]; simp [wayR, hfd]
    have hy1 : 0 ≤ wayR n l ds os r ∧ wayR n l ds os r ≤ 1000000 * r.stops.length := wayGo_le hm os r.stops _
    have hst1 := hst r (by rw [h]; simp)
    have := ih (A ++ [r]) (s + wayR n l ds os r) h2' (by omega) (by simp; omega) (by rw [← h2]; simp only [totGo]; omega)
    have hin := sums_in hm h8 ho (t6 := totGo n l ds os p) (h3 := h3) (h3_1 := 0) (i := A.length) (by omega) hk hst1 (fun d' hd' he => by
      have e : d' = d := drvD_of hg hd' (eq_of_beq he) hfd
      subst e
      unfold costP; rw [hdp, if_pos hwhy]) ds [] s rfl h0 (by simp; omega) (by rw [e1]; simpa using this)
    apply sums_s0
    simp only [sums_t0, bnd_some', bnd_none', bnd_map', ite_true', ite_false', sel_true', sel_false', optK_some, optK_none, getE_rI, len_rI, szL_rI, getE_rO, len_rO, szL_rO, getE_rD, len_rD, szL_rD, getE_rS, len_rS, szL_rS, getE_rV, len_rV, szL_rV, getE_rR, len_rR, szL_rR, szCk_rI, szCk_rO, szCk_rD, szCk_rS, szCk_rV, ckR_rI, ckR_rO, ckR_rS, ckR_rV, take_rO, take_rS, gO_0, gO_1, gO_2, gO_3, gO_4, gO_5, gO_6, gO_7, gO_8, gO_9, gD_0, gD_1, gD_2, gD_3, gD_4, gD_5, gS_0, gS_1, gV_0, gV_1, gV_2, gV_3, gV_4, gV_5, gW_0, gW_1, gSi_0, gSi_1, gSi_2, gSi_3, gSp_0, gSp_1, gSp_2, gSp_3, gF_0, gF_1, gR_0, gR_1, gR_2, cInt_I, Option.map_some, Int.toNat_natCast, Int.ofNat_lt, Int.natCast_nonneg, decide_true, decide_false, and_self, List.length_append, List.length_cons, List.length_nil, Nat.zero_add, Nat.add_zero, Bool.true_or, Bool.false_or, Bool.true_and, Bool.false_and, aInt_eq, aBool_eq, hlt]
    simpa using hin
theorem sums_ok (n : Int) {l : List Int} (hl : l.length ≤ LIM) {ds : List Drv} (hd : ds.length ≤ LIM) {os : List Ord} (ho : os.length ≤ LIM) {p : List Rte} (hp : PlanOK p) : Contract Try.prog 6 [.agg (cWld n l ds os p)] [] (aBool true) [] := by
  refine sums_c n l ds os p ?_
  simp only [sums_te, bnd_some', bnd_none', bnd_map', ite_true', ite_false', sel_true', sel_false', optK_some, optK_none, getE_rI, len_rI, szL_rI, getE_rO, len_rO, szL_rO, getE_rD, len_rD, szL_rD, getE_rS, len_rS, szL_rS, getE_rV, len_rV, szL_rV, getE_rR, len_rR, szL_rR, szCk_rI, szCk_rO, szCk_rD, szCk_rS, szCk_rV, ckR_rI, ckR_rO, ckR_rS, ckR_rV, take_rO, take_rS, gO_0, gO_1, gO_2, gO_3, gO_4, gO_5, gO_6, gO_7, gO_8, gO_9, gD_0, gD_1, gD_2, gD_3, gD_4, gD_5, gS_0, gS_1, gV_0, gV_1, gV_2, gV_3, gV_4, gV_5, gW_0, gW_1, gSi_0, gSi_1, gSi_2, gSi_3, gSp_0, gSp_1, gSp_2, gSp_3, gF_0, gF_1, gR_0, gR_1, gR_2, cInt_I, Option.map_some, Int.toNat_natCast, Int.ofNat_lt, Int.natCast_nonneg, decide_true, decide_false, and_self, List.length_append, List.length_cons, List.length_nil, Nat.zero_add, Nat.add_zero, Bool.true_or, Bool.false_or, Bool.true_and, Bool.false_and, aInt_eq, aBool_eq, dI_rI hl, dD_rD hd, dO_rO ho, dR_rR hp]
  cases h : (newE n l == 0)
  · simp
  · have hm := newE_mapOK (eq_of_beq h)
    by_cases hy : (makeP n l ds os p).why = 0
    · have := sums_loop hm ho hy (h3 := (makeP n l ds os p).at_) p [] 0 rfl (by omega) (by simp) (by omega)
      simpa [dM_rI hm, totP, hy] using this
    · simp [dM_rI hm, totP, hy]
end Go.Proofs.Ytdognggfplnkiaa
