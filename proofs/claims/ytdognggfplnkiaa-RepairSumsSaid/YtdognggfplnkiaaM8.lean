/-
  Contracts: a plan's certificate (cert.Make and drayref9.Make), a route's cost (drayref6.Cost).
-/
import Derived.Test.YtdognggfplnkiaaF8
namespace Go.Proofs.Ytdognggfplnkiaa
open Go.AM
set_option linter.unusedVariables false
set_option linter.unusedSimpArgs false

def rC (c : List (List Vis)) : List (List AC) := c.map fun v => [.ro false (rV v)]
theorem rC_snoc (c : List (List Vis)) (v : List Vis) : rC c ++ [[.ro false (rV v)]] = rC (c ++ [v]) := by simp [rC]
theorem rC_len (c : List (List Vis)) : (rC c).length = c.length := by simp [rC]
/-- A certificate, or which route is wrong. -/
inductive CR where
  | ok (c : List (List Vis))
  | bad (f : Flt)
def CR.outs : CR → List (List Vis) | .ok c => c | .bad _ => []
def CR.at_ : CR → Int | .ok _ => 0 | .bad f => f.at_
def CR.why : CR → Int | .ok _ => 0 | .bad f => f.why
def makeGo (n : Int) (l : List Int) (ds : List Drv) (os : List Ord) : List Rte → List Rte → List (List Vis) → CR
  | A, [], c => .ok c
  | A, r :: B, c => match drvD ds r.drv with
    | none => .bad ⟨A.length, 8⟩
    | some d => if (driveGo n l d os [] r.stops d.frm d.home 0 []).why = 0 then makeGo n l ds os (A ++ [r]) B (c ++ [(driveGo n l d os [] r.stops d.frm d.home 0 []).outs]) else .bad ⟨A.length, (driveGo n l d os [] r.stops d.frm d.home 0 []).why⟩
def makeP (n : Int) (l : List Int) (ds : List Drv) (os : List Ord) (p : List Rte) : CR := if togetherP n ds os p = true then makeGo n l ds os [] p [] else .bad ⟨0, 1⟩
theorem drvsGo_all (n : Int) : ∀ (B A : List Drv), drvsGo n A B = true → ∀ o ∈ B, (drvE n o == 0) = true
  | [], _, _, o, h => by simp at h
  | x :: B, A, h, o, ho => by
    simp only [drvsGo, Bool.and_eq_true] at h
    rcases List.mem_cons.1 ho with rfl | ho
    · exact h.1
    · exact drvsGo_all n B _ h.2.2 o ho
theorem rightGo_all : ∀ (B : List Rte) (last : Int) (seen : List Stp), rightGo last seen B = true → ∀ r ∈ B, r.stops.length ≤ 80
  | [], _, _, _, r, h => by simp at h
  | x :: B, last, seen, h, r, hr => by
    simp only [rightGo, Bool.and_eq_true] at h
    rcases List.mem_cons.1 hr with rfl | hr
    · exact (of_decide_eq_true h.1).2.2.1
    · exact rightGo_all B _ _ h.2.2 r hr
theorem together_p {n : Int} {ds : List Drv} {os : List Ord} {p : List Rte} (h : togetherP n ds os p = true) : ds.length ≤ 8 ∧ knownO n os = true ∧ rightP p = true ∧ p.length ≤ 8 ∧ (∀ r ∈ p, r.stops.length ≤ 80) ∧ ∀ id d, drvD ds id = some d → drvPre n d os = true := by
  simp only [togetherP, Bool.and_eq_true, decide_eq_true_eq] at h
  obtain ⟨h1, h2, h3, h4⟩ := h
  have h3' := h3
  simp only [rightP, Bool.and_eq_true, decide_eq_true_eq] at h3'
  exact ⟨h1, h2, h3, h3'.1, rightGo_all p _ _ h3'.2, fun id d hd => by simp only [drvPre, h2, Bool.true_and]; exact drvsGo_all n ds [] h4 d (List.mem_of_find?_eq_some hd)⟩
theorem uD_lit (d : Drv) : uD [AC.v (Go.Value.int Go.IntKind.i64 d.id), AC.v (Go.Value.int Go.IntKind.i64 d.room), AC.v (Go.Value.int Go.IntKind.i64 d.home), AC.v (Go.Value.int Go.IntKind.i64 d.frm), AC.v (Go.Value.int Go.IntKind.i64 d.till), AC.v (Go.Value.bool d.ret)] = some d := rfl

theorem make_loop {n : Int} {l : List Int} (hm : mapOK n l = true) {ds : List Drv} (hd : ds.length ≤ LIM) {os : List Ord} (ho : os.length ≤ LIM) {p : List Rte} (hp : PlanOK p) (ht : togetherP n ds os p = true) : ∀ (B A : List Rte) (c : List (List Vis)), p = A ++ B → c.length = A.length →
    Goes C_make (.tup [.c (.ref 0), .agg [iC (makeGo n l ds os A B c).at_, iC (makeGo n l ds os A B c).why]]) [.row true 1 (rC (makeGo n l ds os A B c).outs)] (make_j0 n l ds os p A.length (rC c)) := by
  intro B
  obtain ⟨_, _, _, hp8, hst, hdr⟩ := together_p ht
  induction B with
  | nil => intro A c h hc; rw [List.append_nil] at h; subst h; apply make_s0; simp [make_t0, makeGo, CR.at_, CR.why, CR.outs]
  | cons r B ih =>
    intro A c h hc
    obtain ⟨hlt, hk, h2⟩ := at_split h
    have hLIM : LIM = 9223372036854775807 := rfl
    have hSM : SM = 1048576 := rfl
    have hw := wrap_nat (n := A.length) (by omega)
    have hr : r.stops.length ≤ LIM := hp.2 r (by rw [h]; simp)
    have hr8 : r.stops.length ≤ 80 := hst r (by rw [h]; simp)
    have hsm : smS r.stops = true := decide_eq_true (by omega)
    have hfit : fitsB (c.length + 1) 24 = true := fits_of (by omega) (by omega)
    apply make_s0
    cases hf : drvD ds r.drv with
    | none =>
      simp only [make_t0, bnd_some', bnd_none', bnd_map', ite_true', ite_false', sel_true', sel_false', optK_some, optK_none, getE_rI, len_rI, szL_rI, getE_rO, len_rO, szL_rO, getE_rD, len_rD, szL_rD, getE_rS, len_rS, szL_rS, getE_rV, len_rV, szL_rV, getE_rR, len_rR, szL_rR, szCk_rI, szCk_rO, szCk_rD, szCk_rS, szCk_rV, ckR_rI, ckR_rO, ckR_rS, ckR_rV, take_rO, take_rS, gO_0, gO_1, gO_2, gO_3, gO_4, gO_5, gO_6, gO_7, gO_8, gO_9, gD_0, gD_1, gD_2, gD_3, gD_4, gD_5, gS_0, gS_1, gV_0, gV_1, gV_2, gV_3, gV_4, gV_5, gW_0, gW_1, gSi_0, gSi_1, gSi_2, gSi_3, gSp_0, gSp_1, gSp_2, gSp_3, gF_0, gF_1, gR_0, gR_1, gR_2, cInt_I, Option.map_some, Int.toNat_natCast, Int.ofNat_lt, Int.natCast_nonneg, decide_true, decide_false, and_self, List.length_append, List.length_cons, List.length_nil, Nat.zero_add, Nat.add_zero, Bool.true_or, Bool.false_or, Bool.true_and, Bool.false_and, aInt_eq, aBool_eq, hlt, hk, hw, dD_rD hd, hf, makeGo]
      simp [CR.at_, CR.why, CR.outs, rC]
    | some d =>
      simp only [make_t0, bnd_some', bnd_none', bnd_map', ite_true', ite_false', sel_true', sel_false', optK_some, optK_none, getE_rI, len_rI, szL_rI, getE_rO, len_rO, szL_rO, getE_rD, len_rD, szL_rD, getE_rS, len_rS, szL_rS, getE_rV, len_rV, szL_rV, getE_rR, len_rR, szL_rR, szCk_rI, szCk_rO, szCk_rD, szCk_rS, szCk_rV, ckR_rI, ckR_rO, ckR_rS, ckR_rV, take_rO, take_rS, gO_0, gO_1, gO_2, gO_3, gO_4, gO_5, gO_6, gO_7, gO_8, gO_9, gD_0, gD_1, gD_2, gD_3, gD_4, gD_5, gS_0, gS_1, gV_0, gV_1, gV_2, gV_3, gV_4, gV_5, gW_0, gW_1, gSi_0, gSi_1, gSi_2, gSi_3, gSp_0, gSp_1, gSp_2, gSp_3, gF_0, gF_1, gR_0, gR_1, gR_2, cInt_I, Option.map_some, Int.toNat_natCast, Int.ofNat_lt, Int.natCast_nonneg, decide_true, decide_false, and_self, List.length_append, List.length_cons, List.length_nil, Nat.zero_add, Nat.add_zero, Bool.true_or, Bool.false_or, Bool.true_and, Bool.false_and, aInt_eq, aBool_eq, hlt, hk, hw, dD_rD hd, hf, dM_rI hm, dO_rO ho, dS_rS hr, Option.isSome_some, Bool.not_true, Option.getD_some, uD_lit, hdr _ _ hf, hsm, makeGo, List.length_set, List.length_replicate, rC_len, hfit]
      by_cases hy : (driveGo n l d os [] r.stops d.frm d.home 0 []).why = 0
      · have := ih (A ++ [r]) (c ++ [(driveGo n l d os [] r.stops d.frm d.home 0 []).outs]) h2 (by simp [hc])
        have h3 : ((driveGo n l d os [] r.stops d.frm d.home 0 []).why == 0) = true := by simp [hy]
        rw [if_pos hy]
        simp only [h3, Bool.not_true, ite_false', rC_snoc, goesO_some]
        rw [List.length_append, List.length_cons, List.length_nil, Nat.zero_add] at this
        exact this
      · have h3 : ((driveGo n l d os [] r.stops d.frm d.home 0 []).why == 0) = false := by simp [hy]
        rw [if_neg hy]
        simp [h3, CR.at_, CR.why, CR.outs, rC]
theorem make_ok {n : Int} {l : List Int} (hm : mapOK n l = true) {ds : List Drv} (hd : ds.length ≤ LIM) {os : List Ord} (ho : os.length ≤ LIM) {p : List Rte} (hp : PlanOK p) :
    Contract Try.prog 17 [.c (.rp false [.v (.int .i64 n), .ro false (rI l)] 0), .c (.ro false (rD ds)), .c (.ro false (rO os)), .c (.ro false (rR p))] [] (.tup [.c (.ref 0), .agg [iC (makeP n l ds os p).at_, iC (makeP n l ds os p).why]]) [.row true 1 (rC (makeP n l ds os p).outs)] := by
  refine make_c n l ds os p ?_
  simp only [make_te, bnd_some', bnd_none', bnd_map', ite_true', ite_false', sel_true', sel_false', optK_some, optK_none, getE_rI, len_rI, szL_rI, getE_rO, len_rO, szL_rO, getE_rD, len_rD, szL_rD, getE_rS, len_rS, szL_rS, getE_rV, len_rV, szL_rV, getE_rR, len_rR, szL_rR, szCk_rI, szCk_rO, szCk_rD, szCk_rS, szCk_rV, ckR_rI, ckR_rO, ckR_rS, ckR_rV, take_rO, take_rS, gO_0, gO_1, gO_2, gO_3, gO_4, gO_5, gO_6, gO_7, gO_8, gO_9, gD_0, gD_1, gD_2, gD_3, gD_4, gD_5, gS_0, gS_1, gV_0, gV_1, gV_2, gV_3, gV_4, gV_5, gW_0, gW_1, gSi_0, gSi_1, gSi_2, gSi_3, gSp_0, gSp_1, gSp_2, gSp_3, gF_0, gF_1, gR_0, gR_1, gR_2, cInt_I, Option.map_some, Int.toNat_natCast, Int.ofNat_lt, Int.natCast_nonneg, decide_true, decide_false, and_self, List.length_append, List.length_cons, List.length_nil, Nat.zero_add, Nat.add_zero, Bool.true_or, Bool.false_or, Bool.true_and, Bool.false_and, aInt_eq, aBool_eq, dM_rI hm, dD_rD hd, dO_rO ho, dR_rR hp]
  cases ht : togetherP n ds os p
  · simp [makeP, ht, CR.at_, CR.why, CR.outs, rC]
  · have := make_loop hm hd ho hp ht p [] [] rfl rfl
    simpa [makeP, ht, rC] using this
theorem maken_ok (e1 e2 e3 : List (List AC)) : Contract Try.prog 17 [.c (.v (.pointer .none)), .c (.ro false e1), .c (.ro false e2), .c (.ro false e3)] [] (.tup [.c (.ref 0), .agg [iC 0, iC 1]]) [.row true 1 []] :=
  maken_c e1 e2 e3 (by simp [maken_te])
noncomputable def make_G (G : GT) : GT := gAdd 17 (fun a H => match a, H with
  | [.c (.rp false [.v (.int .i64 n), .ro false es] 0), .c (.ro false ds), .c (.ro false os), .c (.ro false p)], [] => bnd (dM n es) fun l => bnd (dD ds) fun ds => bnd (dO os) fun os => bnd (dR p) fun p => some (makeP n l ds os p)
  | [.c (.v (.pointer .none)), .c (.ro false ds), .c (.ro false os), .c (.ro false p)], [] => some (.bad ⟨0, 1⟩)
  | _, _ => none) (fun r K => K (.tup [.c (.ref 0), .agg [iC r.at_, iC r.why]]) [.row true 1 (rC r.outs)]) G
theorem make_g {G : GT} (h : GoodG Try.prog G) : GoodG Try.prog (make_G G) := by
  refine GoodG.add (fun a H p hp K out hk => ?_) h
  split at hp
  · obtain ⟨l, h1, hp⟩ := bnd_some hp
    obtain ⟨ds, h2, hp⟩ := bnd_some hp
    obtain ⟨os, h3, hp⟩ := bnd_some hp
    obtain ⟨pl, h4, hp⟩ := bnd_some hp
    cases hp
    obtain ⟨rfl, h5⟩ := dM_inv h1
    obtain ⟨rfl, h6⟩ := dD_inv h2
    obtain ⟨rfl, h7⟩ := dO_inv h3
    obtain ⟨rfl, h8⟩ := dR_inv h4
    exact ⟨_, _, make_ok h5 h6 h7 h8, hk⟩
  · cases hp
    exact ⟨_, _, maken_ok _ _ _, hk⟩
  · cases hp

theorem r9make_loop {n : Int} {l : List Int} (hm : mapOK n l = true) {ds : List Drv} (hd : ds.length ≤ LIM) {os : List Ord} (ho : os.length ≤ LIM) {p : List Rte} (hp : PlanOK p) (ht : togetherP n ds os p = true) : ∀ (B A : List Rte) (c : List (List Vis)), p = A ++ B → c.length = A.length →
    Goes C_r9make (.tup [.c (.ref 0), .agg [iC (makeGo n l ds os A B c).at_, iC (makeGo n l ds os A B c).why]]) [.row true 1 (rC (makeGo n l ds os A B c).outs)] (r9make_j0 n l ds os p A.length (rC c)) := by
  intro B
  obtain ⟨_, _, _, hp8, hst, hdr⟩ := together_p ht
  induction B with
  | nil => intro A c h hc; rw [List.append_nil] at h; subst h; apply r9make_s0; simp [r9make_t0, makeGo, CR.at_, CR.why, CR.outs]
  | cons r B ih =>
    intro A c h hc
    obtain ⟨hlt, hk, h2⟩ := at_split h
    have hLIM : LIM = 9223372036854775807 := rfl
    have hSM : SM = 1048576 := rfl
    have hw := wrap_nat (n := A.length) (by omega)
    have hr8 : r.stops.length ≤ 80 := hst r (by rw [h]; simp)
    have hr : r.stops.length ≤ LIM := by omega
    have hfit : fitsB (c.length + 1) 24 = true := fits_of (by omega) (by omega)
    apply r9make_s0
    cases hf : drvD ds r.drv with
    | none =>
      simp only [r9make_t0, bnd_some', bnd_none', bnd_map', ite_true', ite_false', sel_true', sel_false', optK_some, optK_none, getE_rI, len_rI, szL_rI, getE_rO, len_rO, szL_rO, getE_rD, len_rD, szL_rD, getE_rS, len_rS, szL_rS, getE_rV, len_rV, szL_rV, getE_rR, len_rR, szL_rR, szCk_rI, szCk_rO, szCk_rD, szCk_rS, szCk_rV, ckR_rI, ckR_rO, ckR_rS, ckR_rV, take_rO, take_rS, gO_0, gO_1, gO_2, gO_3, gO_4, gO_5, gO_6, gO_7, gO_8, gO_9, gD_0, gD_1, gD_2, gD_3, gD_4, gD_5, gS_0, gS_1, gV_0, gV_1, gV_2, gV_3, gV_4, gV_5, gW_0, gW_1, gSi_0, gSi_1, gSi_2, gSi_3, gSp_0, gSp_1, gSp_2, gSp_3, gF_0, gF_1, gR_0, gR_1, gR_2, cInt_I, Option.map_some, Int.toNat_natCast, Int.ofNat_lt, Int.natCast_nonneg, decide_true, decide_false, and_self, List.length_append, List.length_cons, List.length_nil, Nat.zero_add, Nat.add_zero, Bool.true_or, Bool.false_or, Bool.true_and, Bool.false_and, aInt_eq, aBool_eq, hlt, hk, hw, dD_rD hd, hf, makeGo]
      simp [CR.at_, CR.why, CR.outs, rC]
    | some d =>
      have hdp : driveP n l d os r.stops = driveGo n l d os [] r.stops d.frm d.home 0 [] := by
        unfold driveP; rw [if_pos ⟨hdr _ _ hf, hr8⟩]
      simp only [r9make_t0, bnd_some', bnd_none', bnd_map', ite_true', ite_false', sel_true', sel_false', optK_some, optK_none, getE_rI, len_rI, szL_rI, getE_rO, len_rO, szL_rO, getE_rD, len_rD, szL_rD, getE_rS, len_rS, szL_rS, getE_rV, len_rV, szL_rV, getE_rR, len_rR, szL_rR, szCk_rI, szCk_rO, szCk_rD, szCk_rS, szCk_rV, ckR_rI, ckR_rO, ckR_rS, ckR_rV, take_rO, take_rS, gO_0, gO_1, gO_2, gO_3, gO_4, gO_5, gO_6, gO_7, gO_8, gO_9, gD_0, gD_1, gD_2, gD_3, gD_4, gD_5, gS_0, gS_1, gV_0, gV_1, gV_2, gV_3, gV_4, gV_5, gW_0, gW_1, gSi_0, gSi_1, gSi_2, gSi_3, gSp_0, gSp_1, gSp_2, gSp_3, gF_0, gF_1, gR_0, gR_1, gR_2, cInt_I, Option.map_some, Int.toNat_natCast, Int.ofNat_lt, Int.natCast_nonneg, decide_true, decide_false, and_self, List.length_append, List.length_cons, List.length_nil, Nat.zero_add, Nat.add_zero, Bool.true_or, Bool.false_or, Bool.true_and, Bool.false_and, aInt_eq, aBool_eq, hlt, hk, hw, dD_rD hd, hf, dM_rI hm, dO_rO ho, dS_rS hr, Option.isSome_some, Bool.not_true, Option.getD_some, uD_lit, hdp, makeGo, List.length_set, List.length_replicate, rC_len, hfit]
      by_cases hy : (driveGo n l d os [] r.stops d.frm d.home 0 []).why = 0
      · have := ih (A ++ [r]) (c ++ [(driveGo n l d os [] r.stops d.frm d.home 0 []).outs]) h2 (by simp [hc])
        have h3 : ((driveGo n l d os [] r.stops d.frm d.home 0 []).why != 0) = false := by simp [hy]
        rw [if_pos hy]
        simp only [h3, ite_false', rC_snoc, goesO_some]
        rw [List.length_append, List.length_cons, List.length_nil, Nat.zero_add] at this
        exact this
      · have h3 : ((driveGo n l d os [] r.stops d.frm d.home 0 []).why != 0) = true := by simp [hy]
        rw [if_neg hy]
        simp [h3, CR.at_, CR.why, CR.outs, rC]
theorem r9make_ok {n : Int} {l : List Int} (hm : mapOK n l = true) {ds : List Drv} (hd : ds.length ≤ LIM) {os : List Ord} (ho : os.length ≤ LIM) {p : List Rte} (hp : PlanOK p) :
    Contract Try.prog 28 [.c (.rp false [.v (.int .i64 n), .ro false (rI l)] 0), .c (.ro false (rD ds)), .c (.ro false (rO os)), .c (.ro false (rR p))] [] (.tup [.c (.ref 0), .agg [iC (makeP n l ds os p).at_, iC (makeP n l ds os p).why]]) [.row true 1 (rC (makeP n l ds os p).outs)] := by
  refine r9make_c n l ds os p ?_
  simp only [r9make_te, bnd_some', bnd_none', bnd_map', ite_true', ite_false', sel_true', sel_false', optK_some, optK_none, getE_rI, len_rI, szL_rI, getE_rO, len_rO, szL_rO, getE_rD, len_rD, szL_rD, getE_rS, len_rS, szL_rS, getE_rV, len_rV, szL_rV, getE_rR, len_rR, szL_rR, szCk_rI, szCk_rO, szCk_rD, szCk_rS, szCk_rV, ckR_rI, ckR_rO, ckR_rS, ckR_rV, take_rO, take_rS, gO_0, gO_1, gO_2, gO_3, gO_4, gO_5, gO_6, gO_7, gO_8, gO_9, gD_0, gD_1, gD_2, gD_3, gD_4, gD_5, gS_0, gS_1, gV_0, gV_1, gV_2, gV_3, gV_4, gV_5, gW_0, gW_1, gSi_0, gSi_1, gSi_2, gSi_3, gSp_0, gSp_1, gSp_2, gSp_3, gF_0, gF_1, gR_0, gR_1, gR_2, cInt_I, Option.map_some, Int.toNat_natCast, Int.ofNat_lt, Int.natCast_nonneg, decide_true, decide_false, and_self, List.length_append, List.length_cons, List.length_nil, Nat.zero_add, Nat.add_zero, Bool.true_or, Bool.false_or, Bool.true_and, Bool.false_and, aInt_eq, aBool_eq, dI_rI (show l.length ≤ LIM by have := mapOK_len hm; have : LIM = 9223372036854775807 := rfl; omega), dD_rD hd, dO_rO ho, dR_rR hp]
  cases ht : togetherP n ds os p
  · simp [makeP, ht, CR.at_, CR.why, CR.outs, rC]
  · have := r9make_loop hm hd ho hp ht p [] [] rfl rfl
    simpa [makeP, ht, rC] using this
theorem r9maken_ok (e1 e2 e3 : List (List AC)) : Contract Try.prog 28 [.c (.v (.pointer .none)), .c (.ro false e1), .c (.ro false e2), .c (.ro false e3)] [] (.tup [.c (.ref 0), .agg [iC 0, iC 1]]) [.row true 1 []] :=
  r9maken_c e1 e2 e3 (by simp [r9maken_te])
noncomputable def r9make_G (G : GT) : GT := gAdd 28 (fun a H => match a, H with
  | [.c (.rp false [.v (.int .i64 n), .ro false es] 0), .c (.ro false ds), .c (.ro false os), .c (.ro false p)], [] => bnd (dM n es) fun l => bnd (dD ds) fun ds => bnd (dO os) fun os => bnd (dR p) fun p => some (makeP n l ds os p)
  | [.c (.v (.pointer .none)), .c (.ro false ds), .c (.ro false os), .c (.ro false p)], [] => some (.bad ⟨0, 1⟩)
  | _, _ => none) (fun r K => K (.tup [.c (.ref 0), .agg [iC r.at_, iC r.why]]) [.row true 1 (rC r.outs)]) G
theorem r9make_g {G : GT} (h : GoodG Try.prog G) : GoodG Try.prog (r9make_G G) := by
  refine GoodG.add (fun a H p hp K out hk => ?_) h
  split at hp
  · obtain ⟨l, h1, hp⟩ := bnd_some hp
    obtain ⟨ds, h2, hp⟩ := bnd_some hp
    obtain ⟨os, h3, hp⟩ := bnd_some hp
    obtain ⟨pl, h4, hp⟩ := bnd_some hp
    cases hp
    obtain ⟨rfl, h5⟩ := dM_inv h1
    obtain ⟨rfl, h6⟩ := dD_inv h2
    obtain ⟨rfl, h7⟩ := dO_inv h3
    obtain ⟨rfl, h8⟩ := dR_inv h4
    exact ⟨_, _, r9make_ok h5 h6 h7 h8, hk⟩
  · cases hp
    exact ⟨_, _, r9maken_ok _ _ _, hk⟩
  · cases hp

def costP (n : Int) (l : List Int) (d : Drv) (os : List Ord) (stops : List Stp) : Option Int := if (driveP n l d os stops).why = 0 then some (wayGo n l os d.home stops) else none
theorem driveGo_found (n : Int) (l : List Int) (d : Drv) (os : List Ord) : ∀ (B A : List Stp) (now a load : Int) (out : List Vis), (driveGo n l d os A B now a load out).why = 0 → ∀ s ∈ B, ∃ o, findO os s.ord = some o
  | [], _, _, _, _, _, _, s, hs => by simp at hs
  | x :: B, A, now, a, load, out, h, s, hs => by
    unfold driveGo at h
    split at h
    · rename_i hw
      rcases List.mem_cons.1 hs with rfl | hs
      · cases hf : findO os s.ord with
        | none => simp [wrongE, hf] at hw
        | some o => exact ⟨o, rfl⟩
      · split at h
        · cases h
        · split at h
          · cases h
          · exact driveGo_found n l d os B _ _ _ _ _ h s hs
    · rename_i hw; exact absurd h hw
theorem cost_loop {n : Int} {l : List Int} (hm : mapOK n l = true) (d : Drv) {os : List Ord} (ho : os.length ≤ LIM) {stops : List Stp} (hs : stops.length ≤ SM) (hfo : ∀ s ∈ stops, ∃ o, findO os s.ord = some o) : ∀ (B A : List Stp) (t a : Int), stops = A ++ B → 0 ≤ t → t ≤ 1000000 * A.length → Goes C_cost (.tup [aInt .i64 (t + wayGo n l os a B), aBool true]) [] (cost_j0 n l d os stops t a A.length) := by
  intro B
  induction B with
  | nil => intro A t a h _ _; rw [List.append_nil] at h; subst h; apply cost_s0; simp [cost_t0, wayGo]
  | cons s B ih =>
    intro A t a h h0 h1
    obtain ⟨hlt, hk, h2⟩ := at_split h
    have hLIM : LIM = 9223372036854775807 := rfl
    have hSM : SM = 1048576 := rfl
    have hw := wrap_nat (n := A.length) (by omega)
    have hy := wayM_le hm a (placeO os s)
    have hw2 : IntKind.wrap .i64 (t + wayM n l a (placeO os s)) = t + wayM n l a (placeO os s) := wrap_in (by omega) (by omega)
    have := ih (A ++ [s]) (t + wayM n l a (placeO os s)) (placeO os s) h2 (by omega) (by simp; omega)
    apply cost_s0
    rw [List.length_append, List.length_cons, List.length_nil, Nat.zero_add, Int.add_assoc] at this
    obtain ⟨o', hfo'⟩ := hfo s (by rw [h]; simp)
    rcases atI_find (fun o => o.id == s.ord) os 0 with ⟨hf, hi⟩ | ⟨i, o, hf, hi, hio⟩
    · have hf' : findO os s.ord = none := hf
      rw [hf'] at hfo'; cases hfo'
    · replace hf : findO os s.ord = some o := hf
      rw [Nat.zero_add] at hi
      simp only [cost_t0, bnd_some', bnd_none', bnd_map', ite_true', ite_false', sel_true', sel_false', optK_some, optK_none, getE_rI, len_rI, szL_rI, getE_rO, len_rO, szL_rO, getE_rD, len_rD, szL_rD, getE_rS, len_rS, szL_rS, getE_rV, len_rV, szL_rV, getE_rR, len_rR, szL_rR, szCk_rI, szCk_rO, szCk_rD, szCk_rS, szCk_rV, ckR_rI, ckR_rO, ckR_rS, ckR_rV, take_rO, take_rS, gO_0, gO_1, gO_2, gO_3, gO_4, gO_5, gO_6, gO_7, gO_8, gO_9, gD_0, gD_1, gD_2, gD_3, gD_4, gD_5, gS_0, gS_1, gV_0, gV_1, gV_2, gV_3, gV_4, gV_5, gW_0, gW_1, gSi_0, gSi_1, gSi_2, gSi_3, gSp_0, gSp_1, gSp_2, gSp_3, gF_0, gF_1, gR_0, gR_1, gR_2, cInt_I, Option.map_some, Int.toNat_natCast, Int.ofNat_lt, Int.natCast_nonneg, decide_true, decide_false, and_self, List.length_append, List.length_cons, List.length_nil, Nat.zero_add, Nat.add_zero, Bool.true_or, Bool.false_or, Bool.true_and, Bool.false_and, aInt_eq, aBool_eq, hlt, hk, hw, dO_rO ho, dM_rI hm, hi, hio, getD_time]
      cases hd : s.drop
      · have e : placeO os s = o.pp := by simp [placeO, siteO, hd, hf]
        rw [e] at this hw2
        simpa only [bnd_some', bnd_none', bnd_map', ite_true', ite_false', sel_true', sel_false', optK_some, optK_none, getE_rI, len_rI, szL_rI, getE_rO, len_rO, szL_rO, getE_rD, len_rD, szL_rD, getE_rS, len_rS, szL_rS, getE_rV, len_rV, szL_rV, getE_rR, len_rR, szL_rR, szCk_rI, szCk_rO, szCk_rD, szCk_rS, szCk_rV, ckR_rI, ckR_rO, ckR_rS, ckR_rV, take_rO, take_rS, gO_0, gO_1, gO_2, gO_3, gO_4, gO_5, gO_6, gO_7, gO_8, gO_9, gD_0, gD_1, gD_2, gD_3, gD_4, gD_5, gS_0, gS_1, gV_0, gV_1, gV_2, gV_3, gV_4, gV_5, gW_0, gW_1, gSi_0, gSi_1, gSi_2, gSi_3, gSp_0, gSp_1, gSp_2, gSp_3, gF_0, gF_1, gR_0, gR_1, gR_2, cInt_I, Option.map_some, Int.toNat_natCast, Int.ofNat_lt, Int.natCast_nonneg, decide_true, decide_false, goesO_some, goes_ret, goesO_ite, goesO_if, and_self, List.length_append, List.length_cons, List.length_nil, Nat.zero_add, Nat.add_zero, Bool.true_or, Bool.false_or, Bool.true_and, Bool.false_and, aInt_eq, aBool_eq, wayGo, e, hw2] using this
      · have e : placeO os s = o.dp := by simp [placeO, siteO, hd, hf]
        rw [e] at this hw2
        simpa only [bnd_some', bnd_none', bnd_map', ite_true', ite_false', sel_true', sel_false', optK_some, optK_none, getE_rI, len_rI, szL_rI, getE_rO, len_rO, szL_rO, getE_rD, len_rD, szL_rD, getE_rS, len_rS, szL_rS, getE_rV, len_rV, szL_rV, getE_rR, len_rR, szL_rR, szCk_rI, szCk_rO, szCk_rD, szCk_rS, szCk_rV, ckR_rI, ckR_rO, ckR_rS, ckR_rV, take_rO, take_rS, gO_0, gO_1, gO_2, gO_3, gO_4, gO_5, gO_6, gO_7, gO_8, gO_9, gD_0, gD_1, gD_2, gD_3, gD_4, gD_5, gS_0, gS_1, gV_0, gV_1, gV_2, gV_3, gV_4, gV_5, gW_0, gW_1, gSi_0, gSi_1, gSi_2, gSi_3, gSp_0, gSp_1, gSp_2, gSp_3, gF_0, gF_1, gR_0, gR_1, gR_2, cInt_I, Option.map_some, Int.toNat_natCast, Int.ofNat_lt, Int.natCast_nonneg, decide_true, decide_false, goesO_some, goes_ret, goesO_ite, goesO_if, and_self, List.length_append, List.length_cons, List.length_nil, Nat.zero_add, Nat.add_zero, Bool.true_or, Bool.false_or, Bool.true_and, Bool.false_and, aInt_eq, aBool_eq, wayGo, e, hw2] using this
theorem cost_ok {n : Int} {l : List Int} (hm : mapOK n l = true) (d : Drv) {os : List Ord} (ho : os.length ≤ LIM) {stops : List Stp} (hs : stops.length ≤ LIM) : Contract Try.prog 29 [.c (.rp false [.v (.int .i64 n), .ro false (rI l)] 0), .agg (cD d), .c (.ro false (rO os)), .c (.ro false (rS stops))] [] (rTime (costP n l d os stops)) [] := by
  refine cost_c n l d os stops ?_
  simp only [cost_te, bnd_some', bnd_none', bnd_map', ite_true', ite_false', sel_true', sel_false', optK_some, optK_none, getE_rI, len_rI, szL_rI, getE_rO, len_rO, szL_rO, getE_rD, len_rD, szL_rD, getE_rS, len_rS, szL_rS, getE_rV, len_rV, szL_rV, getE_rR, len_rR, szL_rR, szCk_rI, szCk_rO, szCk_rD, szCk_rS, szCk_rV, ckR_rI, ckR_rO, ckR_rS, ckR_rV, take_rO, take_rS, gO_0, gO_1, gO_2, gO_3, gO_4, gO_5, gO_6, gO_7, gO_8, gO_9, gD_0, gD_1, gD_2, gD_3, gD_4, gD_5, gS_0, gS_1, gV_0, gV_1, gV_2, gV_3, gV_4, gV_5, gW_0, gW_1, gSi_0, gSi_1, gSi_2, gSi_3, gSp_0, gSp_1, gSp_2, gSp_3, gF_0, gF_1, gR_0, gR_1, gR_2, cInt_I, Option.map_some, Int.toNat_natCast, Int.ofNat_lt, Int.natCast_nonneg, decide_true, decide_false, and_self, List.length_append, List.length_cons, List.length_nil, Nat.zero_add, Nat.add_zero, Bool.true_or, Bool.false_or, Bool.true_and, Bool.false_and, aInt_eq, aBool_eq, dM_rI hm, uD_lit, dO_rO ho, dS_rS hs]
  by_cases hy : (driveP n l d os stops).why = 0
  · have h3 : ((driveP n l d os stops).why != 0) = false := by simp [hy]
    have hfo : ∀ s ∈ stops, ∃ o, findO os s.ord = some o := by
      have hy' := hy
      unfold driveP at hy'
      split at hy'
      · exact driveGo_found _ _ _ _ _ _ _ _ _ _ hy'
      · cases hy'
    have hsm : stops.length ≤ SM := by
      have hy' := hy
      unfold driveP at hy'
      split at hy'
      · rename_i h80; have : SM = 1048576 := rfl; omega
      · cases hy'
    have := cost_loop hm d ho hsm hfo stops [] 0 d.home rfl (by omega) (by simp)
    simpa [h3, costP, hy, rTime] using this
  · have h3 : ((driveP n l d os stops).why != 0) = true := by simp [hy]
    simp [h3, costP, hy, rTime]
noncomputable def cost_G (G : GT) : GT := gAdd 29 (fun a H => match a, H with | [.c (.rp false [.v (.int .i64 n), .ro false es] 0), .agg cs, .c (.ro false os), .c (.ro false ss)], [] => bnd (dM n es) fun l => bnd (uD cs) fun d => bnd (dO os) fun os => bnd (dS ss) fun ss => some (costP n l d os ss) | _, _ => none) (fun r K => K (rTime r) []) G
theorem cost_g {G : GT} (h : GoodG Try.prog G) : GoodG Try.prog (cost_G G) := by
  refine GoodG.add (fun a H p hp K out hk => ?_) h
  split at hp
  · obtain ⟨l, h1, hp⟩ := bnd_some hp
    obtain ⟨d, h2, hp⟩ := bnd_some hp
    obtain ⟨os, h3, hp⟩ := bnd_some hp
    obtain ⟨ss, h4, hp⟩ := bnd_some hp
    cases hp
    obtain ⟨rfl, h5⟩ := dM_inv h1
    cases uD_inv _ _ h2
    obtain ⟨rfl, h6⟩ := dO_inv h3
    obtain ⟨rfl, h7⟩ := dS_inv h4
    exact ⟨_, _, cost_ok h5 _ h6 h7, hk⟩
  · cases hp
end Go.Proofs.Ytdognggfplnkiaa
