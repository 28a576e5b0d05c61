/-
  Contract: a route driven, if it may be (route.Drive).
-/
import Derived.Test.YtdognggfplnkiaaF14
namespace Go.Proofs.Ytdognggfplnkiaa
open Go.AM
set_option linter.unusedVariables false
set_option linter.unusedSimpArgs false

theorem rdrive_ok {n : Int} {l : List Int} (hm : mapOK n l = true) (d : Drv) {os : List Ord} (ho : os.length ≤ LIM) {stops : List Stp} (hs : stops.length ≤ LIM) :
    Contract Try.prog 34 [.c (.rp false [.v (.int .i64 n), .ro false (rI l)] 0), .agg (cD d), .c (.ro false (rO os)), .c (.ro false (rS stops))] [] (.tup [.c (.ref 0), .agg [iC (driveP n l d os stops).at_, iC (driveP n l d os stops).why]]) [.row true 6 (rV (driveP n l d os stops).outs)] := by
  refine rdrive_c n l d os stops ?_
  simp only [rdrive_te, bnd_some', bnd_none', bnd_map', ite_true', ite_false', sel_true', sel_false', optK_some, optK_none, getE_rI, len_rI, szL_rI, getE_rO, len_rO, szL_rO, getE_rD, len_rD, szL_rD, getE_rS, len_rS, szL_rS, getE_rV, len_rV, szL_rV, getE_rR, len_rR, szL_rR, szCk_rI, szCk_rO, szCk_rD, szCk_rS, szCk_rV, ckR_rI, ckR_rO, ckR_rS, ckR_rV, take_rO, take_rS, gO_0, gO_1, gO_2, gO_3, gO_4, gO_5, gO_6, gO_7, gO_8, gO_9, gD_0, gD_1, gD_2, gD_3, gD_4, gD_5, gS_0, gS_1, gV_0, gV_1, gV_2, gV_3, gV_4, gV_5, gW_0, gW_1, gSi_0, gSi_1, gSi_2, gSi_3, gSp_0, gSp_1, gSp_2, gSp_3, gF_0, gF_1, gR_0, gR_1, gR_2, cInt_I, Option.map_some, Int.toNat_natCast, Int.ofNat_lt, Int.natCast_nonneg, decide_true, decide_false, and_self, List.length_append, List.length_cons, List.length_nil, Nat.zero_add, Nat.add_zero, Bool.true_or, Bool.false_or, Bool.true_and, Bool.false_and, aInt_eq, aBool_eq, dO_rO ho, dM_rI hm, dS_rS hs, drv_eta, uD_lit]
  by_cases h : drvPre n d os = true ∧ stops.length ≤ 80
  · have hf : fitP n d os stops = true := by unfold fitP; rw [h.1, decide_eq_true h.2]; rfl
    have hsm : smS stops = true := decide_eq_true (by have : SM = 1048576 := rfl; omega)
    simp [hf, h, driveP, hsm, drv_eta]
  · have hf : fitP n d os stops = false := by
      unfold fitP; cases h1 : drvPre n d os
      · rfl
      · rw [Bool.true_and]; exact decide_eq_false fun h2 => h ⟨h1, h2⟩
    simp [hf, driveP, h, DR.at_, DR.why, DR.outs, rV]
noncomputable def rdrive_G (G : GT) : GT := gAdd 34 (fun a H => match a, H with | [.c (.rp false [.v (.int .i64 n), .ro false es] 0), .agg cs, .c (.ro false os), .c (.ro false ss)], [] => bnd (dM n es) fun l => bnd (uD cs) fun d => bnd (dO os) fun os => bnd (dS ss) fun ss => some (driveP n l d os ss) | _, _ => none) (fun r K => K (.tup [.c (.ref 0), .agg [iC r.at_, iC r.why]]) [.row true 6 (rV r.outs)]) G
theorem rdrive_g {G : GT} (h : GoodG Try.prog G) : GoodG Try.prog (rdrive_G G) := by
  refine GoodG.add (fun a H p hp K out hk => ?_) h
  split at hp
  · obtain ⟨l, h1, hp⟩ := bnd_some hp
    obtain ⟨d, h2, hp⟩ := bnd_some hp
    obtain ⟨os, h3, hp⟩ := bnd_some hp
    obtain ⟨ss, h4, hp⟩ := bnd_some hp
    cases hp
    obtain ⟨rfl, h5⟩ := dM_inv h1
    cases uD_inv _ _ h2
    obtain ⟨rfl, h6⟩ := dO_inv h3
    obtain ⟨rfl, h7⟩ := dS_inv h4
    exact ⟨_, _, rdrive_ok h5 _ h6 h7, hk⟩
  · cases hp
end Go.Proofs.Ytdognggfplnkiaa
