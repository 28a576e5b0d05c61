/-
  Contracts: a plan's Total (repair.Total and drayref12.Total).
-/
import Derived.Test.YtdognggfplnkiaaF10
namespace Go.Proofs.Ytdognggfplnkiaa
open Go.AM
set_option linter.unusedVariables false
set_option linter.unusedSimpArgs false

def totP (n : Int) (l : List Int) (ds : List Drv) (os : List Ord) (p : List Rte) : Option Int := if (makeP n l ds os p).why = 0 then some (totGo n l ds os p) else none
theorem makeGo_all {n : Int} {l : List Int} {ds : List Drv} {os : List Ord} : ∀ (B A : List Rte) (c : List (List Vis)), (makeGo n l ds os A B c).why = 0 → ∀ r ∈ B, ∃ d, drvD ds r.drv = some d ∧ (driveGo n l d os [] r.stops d.frm d.home 0 []).why = 0
  | [], _, _, _, r, hr => by simp at hr
  | x :: B, A, c, h, r, hr => by
    unfold makeGo at h
    split at h
    · cases h
    · rename_i d hd
      split at h
      · rename_i hw
        rcases List.mem_cons.1 hr with rfl | hr
        · exact ⟨d, hd, hw⟩
        · exact makeGo_all B _ _ h r hr
      · rename_i hw; exact absurd h hw
theorem makeP_all {n : Int} {l : List Int} {ds : List Drv} {os : List Ord} {p : List Rte} (h : (makeP n l ds os p).why = 0) : togetherP n ds os p = true ∧ ∀ r ∈ p, ∃ d, drvD ds r.drv = some d ∧ (driveGo n l d os [] r.stops d.frm d.home 0 []).why = 0 ∧ driveP n l d os r.stops = driveGo n l d os [] r.stops d.frm d.home 0 [] := by
  unfold makeP at h
  split at h
  · rename_i ht
    refine ⟨ht, fun r hr => ?_⟩
    obtain ⟨d, h1, h2⟩ := makeGo_all p [] [] h r hr
    obtain ⟨_, _, _, _, h3, h4⟩ := together_p ht
    exact ⟨d, h1, h2, by unfold driveP; rw [if_pos ⟨h4 _ _ h1, h3 r hr⟩]⟩
  · cases h
theorem makeP_sm {n : Int} {l : List Int} {ds : List Drv} {os : List Ord} {p : List Rte} (h : (makeP n l ds os p).why = 0) : smP p = true := by
  obtain ⟨_, _, _, h1, h2, _⟩ := together_p (makeP_all h).1
  have hSM : SM = 1048576 := rfl
  exact smP_of (by omega) (fun r hr => by have := h2 r hr; omega)
theorem Total_ok {n : Int} {l : List Int} (hm : mapOK n l = true) {ds : List Drv} (hd : ds.length ≤ LIM) {os : List Ord} (ho : os.length ≤ LIM) {p : List Rte} (hp : PlanOK p) : Contract Try.prog 9 [.c (.rp false [.v (.int .i64 n), .ro false (rI l)] 0), .c (.ro false (rD ds)), .c (.ro false (rO os)), .c (.ro false (rR p))] [] (rTime (totP n l ds os p)) [] := by
  refine Total_c n l ds os p ?_
  simp only [Total_te, bnd_some', bnd_none', bnd_map', ite_true', ite_false', sel_true', sel_false', optK_some, optK_none, getE_rI, len_rI, szL_rI, getE_rO, len_rO, szL_rO, getE_rD, len_rD, szL_rD, getE_rS, len_rS, szL_rS, getE_rV, len_rV, szL_rV, getE_rR, len_rR, szL_rR, szCk_rI, szCk_rO, szCk_rD, szCk_rS, szCk_rV, ckR_rI, ckR_rO, ckR_rS, ckR_rV, take_rO, take_rS, gO_0, gO_1, gO_2, gO_3, gO_4, gO_5, gO_6, gO_7, gO_8, gO_9, gD_0, gD_1, gD_2, gD_3, gD_4, gD_5, gS_0, gS_1, gV_0, gV_1, gV_2, gV_3, gV_4, gV_5, gW_0, gW_1, gSi_0, gSi_1, gSi_2, gSi_3, gSp_0, gSp_1, gSp_2, gSp_3, gF_0, gF_1, gR_0, gR_1, gR_2, cInt_I, Option.map_some, Int.toNat_natCast, Int.ofNat_lt, Int.natCast_nonneg, decide_true, decide_false, and_self, List.length_append, List.length_cons, List.length_nil, Nat.zero_add, Nat.add_zero, Bool.true_or, Bool.false_or, Bool.true_and, Bool.false_and, aInt_eq, aBool_eq, dM_rI hm, dD_rD hd, dO_rO ho, dR_rR hp]
  by_cases h : (makeP n l ds os p).why = 0
  · simp [h, totP, rTime, makeP_sm h]
  · simp [h, totP, rTime]
theorem Totaln_ok (e1 e2 e3 : List (List AC)) : Contract Try.prog 9 [.c (.v (.pointer .none)), .c (.ro false e1), .c (.ro false e2), .c (.ro false e3)] [] (rTime none) [] :=
  Totaln_c e1 e2 e3 (by simp [Totaln_te, rTime])
noncomputable def Total_G (G : GT) : GT := gAdd 9 (fun a H => match a, H with
  | [.c (.rp false [.v (.int .i64 n), .ro false es] 0), .c (.ro false ds), .c (.ro false os), .c (.ro false p)], [] => bnd (dM n es) fun l => bnd (dD ds) fun ds => bnd (dO os) fun os => bnd (dR p) fun p => some (totP n l ds os p)
  | [.c (.v (.pointer .none)), .c (.ro false ds), .c (.ro false os), .c (.ro false p)], [] => some none
  | _, _ => none) (fun r K => K (rTime r) []) G
theorem Total_g {G : GT} (h : GoodG Try.prog G) : GoodG Try.prog (Total_G G) := by
  refine GoodG.add (fun a H p hp K out hk => ?_) h
  split at hp
  · obtain ⟨l, h1, hp⟩ := bnd_some hp
    obtain ⟨ds, h2, hp⟩ := bnd_some hp
    obtain ⟨os, h3, hp⟩ := bnd_some hp
    obtain ⟨pl, h4, hp⟩ := bnd_some hp
    cases hp
    obtain ⟨rfl, h5⟩ := dM_inv h1
    obtain ⟨rfl, h6⟩ := dD_inv h2
    obtain ⟨rfl, h7⟩ := dO_inv h3
    obtain ⟨rfl, h8⟩ := dR_inv h4
    exact ⟨_, _, Total_ok h5 h6 h7 h8, hk⟩
  · cases hp
    exact ⟨_, _, Totaln_ok _ _ _, hk⟩
  · cases hp

theorem r12Total_loop {n : Int} {l : List Int} (hm : mapOK n l = true) {ds : List Drv} (hd : ds.length ≤ LIM) {os : List Ord} (ho : os.length ≤ LIM) {p : List Rte} (hp : PlanOK p) (hsm : smP p = true) (hk0 : ∀ r ∈ p, ∃ d, drvD ds r.drv = some d ∧ (driveGo n l d os [] r.stops d.frm d.home 0 []).why = 0 ∧ driveP n l d os r.stops = driveGo n l d os [] r.stops d.frm d.home 0 []) : ∀ (B A : List Rte) (t : Int), p = A ++ B → 0 ≤ t → t ≤ 1048576000000 * A.length → Goes C_r12Total (rTime (some (t + totGo n l ds os B))) [] (r12Total_j0 n l ds os p t A.length) := by
  intro B
  induction B with
  | nil => intro A t h _ _; rw [List.append_nil] at h; subst h; apply r12Total_s0; simp [r12Total_t0, totGo, rTime]
  | cons r B ih =>
    intro A t h h0 h1
    obtain ⟨hlt, hk, h2⟩ := at_split h
    have hLIM : LIM = 9223372036854775807 := rfl
    have hSM : SM = 1048576 := rfl
    have hp1' := (smP_p hsm).1
    have hr' : r.stops.length ≤ SM := (smP_p hsm).2 r (by rw [h]; simp)
    have hp1 := hp.1
    have hw := wrap_nat (n := A.length) (by omega)
    have hr : r.stops.length ≤ LIM := hp.2 r (by rw [h]; simp)
    have hy : 0 ≤ wayR n l ds os r ∧ wayR n l ds os r ≤ 1000000 * r.stops.length := wayGo_le hm os r.stops _
    have hw2 : IntKind.wrap .i64 (t + wayR n l ds os r) = t + wayR n l ds os r := wrap_in (by omega) (by omega)
    have := ih (A ++ [r]) (t + wayR n l ds os r) h2 (by omega) (by simp; omega)
    obtain ⟨d, hfd, hwhy, hdp⟩ := hk0 r (by rw [h]; simp)
    have hc : costP n l d os r.stops = some (wayR n l ds os r) := by unfold costP; rw [hdp, if_pos hwhy]; unfold wayR; rw [hfd]; rfl
    apply r12Total_s0
    rw [List.length_append, List.length_cons, List.length_nil, Nat.zero_add, Int.add_assoc] at this
    rcases atI_find (fun o => o.id == r.drv) ds 0 with ⟨hf, hi⟩ | ⟨i, d', hf, hi, hio⟩
    · have hf' : drvD ds r.drv = none := hf
      rw [hf'] at hfd; cases hfd
    · replace hf : drvD ds r.drv = some d' := hf
      rw [hf] at hfd; cases hfd
      rw [Nat.zero_add] at hi
      simp only [r12Total_t0, bnd_some', bnd_none', bnd_map', ite_true', ite_false', sel_true', sel_false', optK_some, optK_none, getE_rI, len_rI, szL_rI, getE_rO, len_rO, szL_rO, getE_rD, len_rD, szL_rD, getE_rS, len_rS, szL_rS, getE_rV, len_rV, szL_rV, getE_rR, len_rR, szL_rR, szCk_rI, szCk_rO, szCk_rD, szCk_rS, szCk_rV, ckR_rI, ckR_rO, ckR_rS, ckR_rV, take_rO, take_rS, gO_0, gO_1, gO_2, gO_3, gO_4, gO_5, gO_6, gO_7, gO_8, gO_9, gD_0, gD_1, gD_2, gD_3, gD_4, gD_5, gS_0, gS_1, gV_0, gV_1, gV_2, gV_3, gV_4, gV_5, gW_0, gW_1, gSi_0, gSi_1, gSi_2, gSi_3, gSp_0, gSp_1, gSp_2, gSp_3, gF_0, gF_1, gR_0, gR_1, gR_2, cInt_I, Option.map_some, Int.toNat_natCast, Int.ofNat_lt, Int.natCast_nonneg, decide_true, decide_false, and_self, List.length_append, List.length_cons, List.length_nil, Nat.zero_add, Nat.add_zero, Bool.true_or, Bool.false_or, Bool.true_and, Bool.false_and, aInt_eq, aBool_eq, hlt, hk, hw, dO_rO ho, dD_rD hd, dM_rI hm, dS_rS hr, uD_lit, hi, hio, hc, Option.getD_some, hw2]
      simpa only [bnd_some', bnd_none', bnd_map', ite_true', ite_false', sel_true', sel_false', optK_some, optK_none, getE_rI, len_rI, szL_rI, getE_rO, len_rO, szL_rO, getE_rD, len_rD, szL_rD, getE_rS, len_rS, szL_rS, getE_rV, len_rV, szL_rV, getE_rR, len_rR, szL_rR, szCk_rI, szCk_rO, szCk_rD, szCk_rS, szCk_rV, ckR_rI, ckR_rO, ckR_rS, ckR_rV, take_rO, take_rS, gO_0, gO_1, gO_2, gO_3, gO_4, gO_5, gO_6, gO_7, gO_8, gO_9, gD_0, gD_1, gD_2, gD_3, gD_4, gD_5, gS_0, gS_1, gV_0, gV_1, gV_2, gV_3, gV_4, gV_5, gW_0, gW_1, gSi_0, gSi_1, gSi_2, gSi_3, gSp_0, gSp_1, gSp_2, gSp_3, gF_0, gF_1, gR_0, gR_1, gR_2, cInt_I, Option.map_some, Int.toNat_natCast, Int.ofNat_lt, Int.natCast_nonneg, decide_true, decide_false, goesO_some, goes_ret, goesO_ite, goesO_if, and_self, List.length_append, List.length_cons, List.length_nil, Nat.zero_add, Nat.add_zero, Bool.true_or, Bool.false_or, Bool.true_and, Bool.false_and, aInt_eq, aBool_eq, totGo] using this
theorem r12Total_ok {n : Int} {l : List Int} (hm : mapOK n l = true) {ds : List Drv} (hd : ds.length ≤ LIM) {os : List Ord} (ho : os.length ≤ LIM) {p : List Rte} (hp : PlanOK p) : Contract Try.prog 15 [.c (.rp false [.v (.int .i64 n), .ro false (rI l)] 0), .c (.ro false (rD ds)), .c (.ro false (rO os)), .c (.ro false (rR p))] [] (rTime (totP n l ds os p)) [] := by
  refine r12Total_c n l ds os p ?_
  simp only [r12Total_te, bnd_some', bnd_none', bnd_map', ite_true', ite_false', sel_true', sel_false', optK_some, optK_none, getE_rI, len_rI, szL_rI, getE_rO, len_rO, szL_rO, getE_rD, len_rD, szL_rD, getE_rS, len_rS, szL_rS, getE_rV, len_rV, szL_rV, getE_rR, len_rR, szL_rR, szCk_rI, szCk_rO, szCk_rD, szCk_rS, szCk_rV, ckR_rI, ckR_rO, ckR_rS, ckR_rV, take_rO, take_rS, gO_0, gO_1, gO_2, gO_3, gO_4, gO_5, gO_6, gO_7, gO_8, gO_9, gD_0, gD_1, gD_2, gD_3, gD_4, gD_5, gS_0, gS_1, gV_0, gV_1, gV_2, gV_3, gV_4, gV_5, gW_0, gW_1, gSi_0, gSi_1, gSi_2, gSi_3, gSp_0, gSp_1, gSp_2, gSp_3, gF_0, gF_1, gR_0, gR_1, gR_2, cInt_I, Option.map_some, Int.toNat_natCast, Int.ofNat_lt, Int.natCast_nonneg, decide_true, decide_false, and_self, List.length_append, List.length_cons, List.length_nil, Nat.zero_add, Nat.add_zero, Bool.true_or, Bool.false_or, Bool.true_and, Bool.false_and, aInt_eq, aBool_eq, dM_rI hm, dD_rD hd, dO_rO ho, dR_rR hp]
  by_cases h : (makeP n l ds os p).why = 0
  · have := r12Total_loop hm hd ho hp (makeP_sm h) (makeP_all h).2 p [] 0 rfl (by omega) (by simp)
    simpa [h, totP] using this
  · simp [h, totP, rTime]
theorem r12Totaln_ok (e1 e2 e3 : List (List AC)) : Contract Try.prog 15 [.c (.v (.pointer .none)), .c (.ro false e1), .c (.ro false e2), .c (.ro false e3)] [] (rTime none) [] :=
  r12Totaln_c e1 e2 e3 (by simp [r12Totaln_te, rTime])
noncomputable def r12Total_G (G : GT) : GT := gAdd 15 (fun a H => match a, H with
  | [.c (.rp false [.v (.int .i64 n), .ro false es] 0), .c (.ro false ds), .c (.ro false os), .c (.ro false p)], [] => bnd (dM n es) fun l => bnd (dD ds) fun ds => bnd (dO os) fun os => bnd (dR p) fun p => some (totP n l ds os p)
  | [.c (.v (.pointer .none)), .c (.ro false ds), .c (.ro false os), .c (.ro false p)], [] => some none
  | _, _ => none) (fun r K => K (rTime r) []) G
theorem r12Total_g {G : GT} (h : GoodG Try.prog G) : GoodG Try.prog (r12Total_G G) := by
  refine GoodG.add (fun a H p hp K out hk => ?_) h
  split at hp
  · obtain ⟨l, h1, hp⟩ := bnd_some hp
    obtain ⟨ds, h2, hp⟩ := bnd_some hp
    obtain ⟨os, h3, hp⟩ := bnd_some hp
    obtain ⟨pl, h4, hp⟩ := bnd_some hp
    cases hp
    obtain ⟨rfl, h5⟩ := dM_inv h1
    obtain ⟨rfl, h6⟩ := dD_inv h2
    obtain ⟨rfl, h7⟩ := dO_inv h3
    obtain ⟨rfl, h8⟩ := dR_inv h4
    exact ⟨_, _, r12Total_ok h5 h6 h7 h8, hk⟩
  · cases hp
    exact ⟨_, _, r12Totaln_ok _ _ _, hk⟩
  · cases hp
end Go.Proofs.Ytdognggfplnkiaa
