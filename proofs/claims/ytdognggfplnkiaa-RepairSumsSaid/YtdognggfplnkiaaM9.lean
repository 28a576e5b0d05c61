/-
  Contracts: the sum over the routes (repair.total), both maps (World.Maps).
-/
import Derived.Test.YtdognggfplnkiaaF9
namespace Go.Proofs.Ytdognggfplnkiaa
open Go.AM
set_option linter.unusedVariables false
set_option linter.unusedSimpArgs false

def wayR (n : Int) (l : List Int) (ds : List Drv) (os : List Ord) (r : Rte) : Int := wayGo n l os ((drvD ds r.drv).getD zD).home r.stops
def totGo (n : Int) (l : List Int) (ds : List Drv) (os : List Ord) : List Rte → Int
  | [] => 0
  | r :: B => wayR n l ds os r + totGo n l ds os B
theorem total_loop {n : Int} {l : List Int} (hm : mapOK n l = true) {ds : List Drv} (hd : ds.length ≤ LIM) {os : List Ord} (ho : os.length ≤ LIM) {p : List Rte} (hp : PlanOK p) (hsm : smP p = true) : ∀ (B A : List Rte) (t : Int), p = A ++ B → 0 ≤ t → t ≤ 1048576000000 * A.length → Goes C_total (aInt .i64 (t + totGo n l ds os B)) [] (total_j0 n l ds os p t A.length) := by
  intro B
  induction B with
  | nil => intro A t h _ _; rw [List.append_nil] at h; subst h; apply total_s0; simp [total_t0, totGo]
  | cons r B ih =>
    intro A t h h0 h1
    obtain ⟨hlt, hk, h2⟩ := at_split h
    have hLIM : LIM = 9223372036854775807 := rfl
    have hSM : SM = 1048576 := rfl
    have hp1' := (smP_p hsm).1
    have hr' : r.stops.length ≤ SM := (smP_p hsm).2 r (by rw [h]; simp)
    have hsr : smS r.stops = true := decide_eq_true hr'
    have hw := wrap_nat (n := A.length) (by have := hp.1; omega)
    have hr : r.stops.length ≤ LIM := hp.2 r (by rw [h]; simp)
    have hy : 0 ≤ wayR n l ds os r ∧ wayR n l ds os r ≤ 1000000 * r.stops.length := wayGo_le hm os r.stops _
    have hp1 := hp.1
    have hw2 : IntKind.wrap .i64 (t + wayR n l ds os r) = t + wayR n l ds os r := wrap_in (by omega) (by omega)
    have := ih (A ++ [r]) (t + wayR n l ds os r) h2 (by omega) (by simp; omega)
    have e : wayGo n l os ((drvD ds r.drv).getD zD).home r.stops = wayR n l ds os r := rfl
    apply total_s0
    rw [List.length_append, List.length_cons, List.length_nil, Nat.zero_add, Int.add_assoc] at this
    simp only [total_t0, bnd_some', bnd_none', bnd_map', ite_true', ite_false', sel_true', sel_false', optK_some, optK_none, getE_rI, len_rI, szL_rI, getE_rO, len_rO, szL_rO, getE_rD, len_rD, szL_rD, getE_rS, len_rS, szL_rS, getE_rV, len_rV, szL_rV, getE_rR, len_rR, szL_rR, szCk_rI, szCk_rO, szCk_rD, szCk_rS, szCk_rV, ckR_rI, ckR_rO, ckR_rS, ckR_rV, take_rO, take_rS, gO_0, gO_1, gO_2, gO_3, gO_4, gO_5, gO_6, gO_7, gO_8, gO_9, gD_0, gD_1, gD_2, gD_3, gD_4, gD_5, gS_0, gS_1, gV_0, gV_1, gV_2, gV_3, gV_4, gV_5, gW_0, gW_1, gSi_0, gSi_1, gSi_2, gSi_3, gSp_0, gSp_1, gSp_2, gSp_3, gF_0, gF_1, gR_0, gR_1, gR_2, cInt_I, Option.map_some, Int.toNat_natCast, Int.ofNat_lt, Int.natCast_nonneg, decide_true, decide_false, and_self, List.length_append, List.length_cons, List.length_nil, Nat.zero_add, Nat.add_zero, Bool.true_or, Bool.false_or, Bool.true_and, Bool.false_and, aInt_eq, aBool_eq, hlt, hk, hw, dO_rO ho, dD_rD hd, dM_rI hm, dS_rS hr, uD_lit, hsr, e, hw2]
    simpa only [bnd_some', bnd_none', bnd_map', ite_true', ite_false', sel_true', sel_false', optK_some, optK_none, getE_rI, len_rI, szL_rI, getE_rO, len_rO, szL_rO, getE_rD, len_rD, szL_rD, getE_rS, len_rS, szL_rS, getE_rV, len_rV, szL_rV, getE_rR, len_rR, szL_rR, szCk_rI, szCk_rO, szCk_rD, szCk_rS, szCk_rV, ckR_rI, ckR_rO, ckR_rS, ckR_rV, take_rO, take_rS, gO_0, gO_1, gO_2, gO_3, gO_4, gO_5, gO_6, gO_7, gO_8, gO_9, gD_0, gD_1, gD_2, gD_3, gD_4, gD_5, gS_0, gS_1, gV_0, gV_1, gV_2, gV_3, gV_4, gV_5, gW_0, gW_1, gSi_0, gSi_1, gSi_2, gSi_3, gSp_0, gSp_1, gSp_2, gSp_3, gF_0, gF_1, gR_0, gR_1, gR_2, cInt_I, Option.map_some, Int.toNat_natCast, Int.ofNat_lt, Int.natCast_nonneg, decide_true, decide_false, goesO_some, goes_ret, goesO_ite, goesO_if, and_self, List.length_append, List.length_cons, List.length_nil, Nat.zero_add, Nat.add_zero, Bool.true_or, Bool.false_or, Bool.true_and, Bool.false_and, aInt_eq, aBool_eq, totGo] using this
theorem total_ok {n : Int} {l : List Int} (hm : mapOK n l = true) {ds : List Drv} (hd : ds.length ≤ LIM) {os : List Ord} (ho : os.length ≤ LIM) {p : List Rte} (hp : PlanOK p) (hsm : smP p = true) : Contract Try.prog 23 [.c (.rp false [.v (.int .i64 n), .ro false (rI l)] 0), .c (.ro false (rD ds)), .c (.ro false (rO os)), .c (.ro false (rR p))] [] (aInt .i64 (totGo n l ds os p)) [] := by
  refine total_c n l ds os p ?_
  have := total_loop hm hd ho hp hsm p [] 0 rfl (by omega) (by simp)
  simpa [total_te] using this
noncomputable def total_G (G : GT) : GT := gAdd 23 (fun a H => match a, H with
  | [.c (.rp false [.v (.int .i64 n), .ro false es] 0), .c (.ro false ds), .c (.ro false os), .c (.ro false p)], [] => bnd (dM n es) fun l => bnd (dD ds) fun ds => bnd (dO os) fun os => bnd (dR p) fun p => (match smP p with | true => some (totGo n l ds os p) | false => none)
  | _, _ => none) (fun r K => K (aInt .i64 r) []) G
theorem total_g {G : GT} (h : GoodG Try.prog G) : GoodG Try.prog (total_G G) := by
  refine GoodG.add (fun a H p hp K out hk => ?_) h
  split at hp
  · obtain ⟨l, h1, hp⟩ := bnd_some hp
    obtain ⟨ds, h2, hp⟩ := bnd_some hp
    obtain ⟨os, h3, hp⟩ := bnd_some hp
    obtain ⟨pl, h4, hp⟩ := bnd_some hp
    split at hp
    · rename_i hsm
      cases hp
      obtain ⟨rfl, h5⟩ := dM_inv h1
      obtain ⟨rfl, h6⟩ := dD_inv h2
      obtain ⟨rfl, h7⟩ := dO_inv h3
      obtain ⟨rfl, h8⟩ := dR_inv h4
      exact ⟨_, _, total_ok h5 h6 h7 h8 hsm, hk⟩
    · cases hp
  · cases hp

def cWld (n : Int) (l : List Int) (ds : List Drv) (os : List Ord) (p : List Rte) : List AC := [.v (.int .i64 n), .ro false (rI l), .ro false (rD ds), .ro false (rO os), .ro false (rR p)]
def rMaps0 : AV := .tup [.c (.ptr 0 0 0), .c (.ptr 2 0 0), .c (.v (.bool true))]
def hMaps0 (n : Int) (l : List Int) : List Buf := [.obj 72 [.v (.int .i64 n), .ref 1], .row true 1 (rI l), .obj 101 [.v (.int .i64 n), .ref 3], .row true 1 (rI l)]
def rMaps : AV := .tup [.c (.v (.pointer .none)), .c (.v (.pointer .none)), .c (.v (.bool true))]
theorem maps_ok (n : Int) {l : List Int} (hl : l.length ≤ LIM) (ds : List Drv) (os : List Ord) (p : List Rte) : (newE n l = 0 → Contract Try.prog 14 [.agg (cWld n l ds os p)] [] rMaps0 (hMaps0 n l)) ∧ (newE n l ≠ 0 → Contract Try.prog 14 [.agg (cWld n l ds os p)] [] rMaps []) := by
  constructor
  · intro h
    refine maps_c n l ds os p ?_
    have h1 : (newE n l == 0) = true := by simp [h]
    simp only [maps_te, bnd_some', bnd_none', bnd_map', ite_true', ite_false', sel_true', sel_false', optK_some, optK_none, getE_rI, len_rI, szL_rI, getE_rO, len_rO, szL_rO, getE_rD, len_rD, szL_rD, getE_rS, len_rS, szL_rS, getE_rV, len_rV, szL_rV, getE_rR, len_rR, szL_rR, szCk_rI, szCk_rO, szCk_rD, szCk_rS, szCk_rV, ckR_rI, ckR_rO, ckR_rS, ckR_rV, take_rO, take_rS, gO_0, gO_1, gO_2, gO_3, gO_4, gO_5, gO_6, gO_7, gO_8, gO_9, gD_0, gD_1, gD_2, gD_3, gD_4, gD_5, gS_0, gS_1, gV_0, gV_1, gV_2, gV_3, gV_4, gV_5, gW_0, gW_1, gSi_0, gSi_1, gSi_2, gSi_3, gSp_0, gSp_1, gSp_2, gSp_3, gF_0, gF_1, gR_0, gR_1, gR_2, cInt_I, Option.map_some, Int.toNat_natCast, Int.ofNat_lt, Int.natCast_nonneg, decide_true, decide_false, and_self, List.length_append, List.length_cons, List.length_nil, Nat.zero_add, Nat.add_zero, Bool.true_or, Bool.false_or, Bool.true_and, Bool.false_and, aInt_eq, aBool_eq, dI_rI hl, h1, goesO_some, goes_ret]
    exact ⟨rfl, rfl⟩
  · intro h
    refine maps_c n l ds os p ?_
    have h1 : (newE n l == 0) = false := by simp [h]
    have h2 : (newE n l == newE n l) = true := by simp
    simp [maps_te, dI_rI hl, h1, rMaps]
noncomputable def maps_G (G : GT) : GT := gAdd 14 (fun a H => match a, H with | [.agg [.v (.int .i64 n), .ro false es, .ro false ds, .ro false os, .ro false p]], [] => bnd (dI es) fun l => bnd (dD ds) fun ds => bnd (dO os) fun os => bnd (dR p) fun p => some (n, l) | _, _ => none) (fun p K => ite' (newE p.1 p.2 == 0) (K rMaps0 (hMaps0 p.1 p.2)) (K rMaps [])) G
theorem maps_g {G : GT} (h : GoodG Try.prog G) : GoodG Try.prog (maps_G G) := by
  refine GoodG.add (fun a H p hp K out hk => ?_) h
  split at hp
  · obtain ⟨l, h1, hp⟩ := bnd_some hp
    obtain ⟨ds, h2, hp⟩ := bnd_some hp
    obtain ⟨os, h3, hp⟩ := bnd_some hp
    obtain ⟨pl, h4, hp⟩ := bnd_some hp
    cases hp
    obtain ⟨rfl, h5⟩ := dI_inv h1
    obtain ⟨rfl, h6⟩ := dD_inv h2
    obtain ⟨rfl, h7⟩ := dO_inv h3
    obtain ⟨rfl, h8⟩ := dR_inv h4
    obtain ⟨k1, k2⟩ := maps_ok _ h5 ds os pl
    dsimp only at hk
    cases he : (newE _ l == 0) with
    | true => rw [he] at hk; exact ⟨_, _, k1 (eq_of_beq he), hk⟩
    | false => rw [he] at hk; exact ⟨_, _, k2 (by intro h; rw [h] at he; simp at he), hk⟩
  · cases hp
end Go.Proofs.Ytdognggfplnkiaa
