/-
  Contract: what a route costs (route.Cost).
-/
import Derived.Test.YtdognggfplnkiaaF15
namespace Go.Proofs.Ytdognggfplnkiaa
open Go.AM
set_option linter.unusedVariables false
set_option linter.unusedSimpArgs false

theorem driveP_sm {n : Int} {l : List Int} {d : Drv} {os : List Ord} {stops : List Stp} (h : (driveP n l d os stops).why = 0) : smS stops = true := by
  unfold driveP at h
  split at h
  · rename_i h1; exact decide_eq_true (by have : SM = 1048576 := rfl; omega)
  · cases h
theorem rcost_ok {n : Int} {l : List Int} (hm : mapOK n l = true) (d : Drv) {os : List Ord} (ho : os.length ≤ LIM) {stops : List Stp} (hs : stops.length ≤ LIM) :
    Contract Try.prog 19 [.c (.rp false [.v (.int .i64 n), .ro false (rI l)] 0), .agg (cD d), .c (.ro false (rO os)), .c (.ro false (rS stops))] [] (rTime (costP n l d os stops)) [] := by
  refine rcost_c n l d os stops ?_
  simp only [rcost_te, bnd_some', bnd_none', bnd_map', ite_true', ite_false', sel_true', sel_false', optK_some, optK_none, getE_rI, len_rI, szL_rI, getE_rO, len_rO, szL_rO, getE_rD, len_rD, szL_rD, getE_rS, len_rS, szL_rS, getE_rV, len_rV, szL_rV, getE_rR, len_rR, szL_rR, szCk_rI, szCk_rO, szCk_rD, szCk_rS, szCk_rV, ckR_rI, ckR_rO, ckR_rS, ckR_rV, take_rO, take_rS, gO_0, gO_1, gO_2, gO_3, gO_4, gO_5, gO_6, gO_7, gO_8, gO_9, gD_0, gD_1, gD_2, gD_3, gD_4, gD_5, gS_0, gS_1, gV_0, gV_1, gV_2, gV_3, gV_4, gV_5, gW_0, gW_1, gSi_0, gSi_1, gSi_2, gSi_3, gSp_0, gSp_1, gSp_2, gSp_3, gF_0, gF_1, gR_0, gR_1, gR_2, cInt_I, Option.map_some, Int.toNat_natCast, Int.ofNat_lt, Int.natCast_nonneg, decide_true, decide_false, and_self, List.length_append, List.length_cons, List.length_nil, Nat.zero_add, Nat.add_zero, Bool.true_or, Bool.false_or, Bool.true_and, Bool.false_and, aInt_eq, aBool_eq, dO_rO ho, dM_rI hm, dS_rS hs, drv_eta, uD_lit]
  by_cases h : (driveP n l d os stops).why = 0
  · simp [h, costP, rTime, driveP_sm h, drv_eta]
  · simp [h, costP, rTime]
noncomputable def rcost_G (G : GT) : GT := gAdd 19 (fun a H => match a, H with | [.c (.rp false [.v (.int .i64 n), .ro false es] 0), .agg cs, .c (.ro false os), .c (.ro false ss)], [] => bnd (dM n es) fun l => bnd (uD cs) fun d => bnd (dO os) fun os => bnd (dS ss) fun ss => some (costP n l d os ss) | _, _ => none) (fun r K => K (rTime r) []) G
theorem rcost_g {G : GT} (h : GoodG Try.prog G) : GoodG Try.prog (rcost_G G) := by
  refine GoodG.add (fun a H p hp K out hk => ?_) h
  split at hp
  · obtain ⟨l, h1, hp⟩ := bnd_some hp
    obtain ⟨d, h2, hp⟩ := bnd_some hp
    obtain ⟨os, h3, hp⟩ := bnd_some hp
    obtain ⟨ss, h4, hp⟩ := bnd_some hp
    cases hp
    obtain ⟨rfl, h5⟩ := dM_inv h1
    cases uD_inv _ _ h2
    obtain ⟨rfl, h6⟩ := dO_inv h3
    obtain ⟨rfl, h7⟩ := dS_inv h4
    exact ⟨_, _, rcost_ok h5 _ h6 h7, hk⟩
  · cases hp
end Go.Proofs.Ytdognggfplnkiaa
