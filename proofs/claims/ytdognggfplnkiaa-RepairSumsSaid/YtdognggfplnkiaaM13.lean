/-
  Contract: may a route be driven at all (route.Fit).
-/
import Derived.Test.YtdognggfplnkiaaF13
namespace Go.Proofs.Ytdognggfplnkiaa
open Go.AM
set_option linter.unusedVariables false
set_option linter.unusedSimpArgs false

def fitP (n : Int) (d : Drv) (os : List Ord) (stops : List Stp) : Bool := drvPre n d os && decide (stops.length ≤ 80)
theorem fit_ok {n : Int} {l : List Int} (hm : mapOK n l = true) (d : Drv) {os : List Ord} (ho : os.length ≤ LIM) {stops : List Stp} (hs : stops.length ≤ LIM) :
    Contract Try.prog 56 [.c (.rp false [.v (.int .i64 n), .ro false (rI l)] 0), .agg (cD d), .c (.ro false (rO os)), .c (.ro false (rS stops))] [] (aBool (fitP n d os stops)) [] := by
  refine fit_c n l d os stops ?_
  simp only [fit_te, bnd_some', bnd_none', bnd_map', ite_true', ite_false', sel_true', sel_false', optK_some, optK_none, getE_rI, len_rI, szL_rI, getE_rO, len_rO, szL_rO, getE_rD, len_rD, szL_rD, getE_rS, len_rS, szL_rS, getE_rV, len_rV, szL_rV, getE_rR, len_rR, szL_rR, szCk_rI, szCk_rO, szCk_rD, szCk_rS, szCk_rV, ckR_rI, ckR_rO, ckR_rS, ckR_rV, take_rO, take_rS, gO_0, gO_1, gO_2, gO_3, gO_4, gO_5, gO_6, gO_7, gO_8, gO_9, gD_0, gD_1, gD_2, gD_3, gD_4, gD_5, gS_0, gS_1, gV_0, gV_1, gV_2, gV_3, gV_4, gV_5, gW_0, gW_1, gSi_0, gSi_1, gSi_2, gSi_3, gSp_0, gSp_1, gSp_2, gSp_3, gF_0, gF_1, gR_0, gR_1, gR_2, cInt_I, Option.map_some, Int.toNat_natCast, Int.ofNat_lt, Int.natCast_nonneg, decide_true, decide_false, and_self, List.length_append, List.length_cons, List.length_nil, Nat.zero_add, Nat.add_zero, Bool.true_or, Bool.false_or, Bool.true_and, Bool.false_and, aInt_eq, aBool_eq, dO_rO ho, drv_eta, uD_lit, mapOK_nOK hm, fitP, drvPre]
  have h4 : decide ((stops.length : Int) ≤ 80) = decide (stops.length ≤ 80) := by by_cases h : stops.length ≤ 80 <;> simp [h] <;> omega
  rw [h4]
  cases h1 : drvE n d == 0 <;> cases h2 : knownO n os <;> by_cases h3 : stops.length ≤ 80 <;> simp [h1, h2, h3]
noncomputable def fit_G (G : GT) : GT := gAdd 56 (fun a H => match a, H with | [.c (.rp false [.v (.int .i64 n), .ro false es] 0), .agg cs, .c (.ro false os), .c (.ro false ss)], [] => bnd (dM n es) fun l => bnd (uD cs) fun d => bnd (dO os) fun os => bnd (dS ss) fun ss => some (fitP n d os ss) | _, _ => none) (fun b K => K (aBool b) []) G
theorem fit_g {G : GT} (h : GoodG Try.prog G) : GoodG Try.prog (fit_G G) := by
  refine GoodG.add (fun a H p hp K out hk => ?_) h
  split at hp
  · obtain ⟨l, h1, hp⟩ := bnd_some hp
    obtain ⟨d, h2, hp⟩ := bnd_some hp
    obtain ⟨os, h3, hp⟩ := bnd_some hp
    obtain ⟨ss, h4, hp⟩ := bnd_some hp
    cases hp
    obtain ⟨rfl, h5⟩ := dM_inv h1
    cases uD_inv _ _ h2
    obtain ⟨rfl, h6⟩ := dO_inv h3
    obtain ⟨rfl, h7⟩ := dS_inv h4
    exact ⟨_, _, fit_ok h5 _ h6 h7, hk⟩
  · cases hp
end Go.Proofs.Ytdognggfplnkiaa
