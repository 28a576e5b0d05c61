/-
  Contracts of the small functions: time, begin, site, driver, served.
-/
import Derived.Test.YtdognggfplnkiaaM42
namespace Go.Proofs.Ytdognggfplnkiaa
open Go.AM
set_option linter.unusedVariables false
set_option linter.unusedSimpArgs false

def mapOK (n : Int) (l : List Int) : Bool := decide (1 ≤ n ∧ n ≤ 12 ∧ (l.length : Int) = n * n) && l.all fun t => decide (0 ≤ t ∧ t ≤ 1000000)
theorem mapOK_n {n : Int} {l : List Int} (h : mapOK n l = true) : 1 ≤ n ∧ n ≤ 12 ∧ (l.length : Int) = n * n := by
  unfold mapOK at h; exact of_decide_eq_true (Bool.and_eq_true_iff.1 h).1
theorem mapOK_nOK {n : Int} {l : List Int} (h : mapOK n l = true) : nOK n = true := decide_eq_true ⟨(mapOK_n h).1, (mapOK_n h).2.1⟩
theorem sq_le {n : Int} (h1 : 1 ≤ n) (h2 : n ≤ 12) : n * n ≤ 144 := by
  have : n * n ≤ 12 * n := Int.mul_le_mul_of_nonneg_right h2 (by omega)
  omega
theorem mapOK_len {n : Int} {l : List Int} (h : mapOK n l = true) : l.length ≤ 144 := by
  obtain ⟨h1, h2, h3⟩ := mapOK_n h
  have := sq_le h1 h2
  omega
theorem mapOK_mem {n : Int} {l : List Int} (h : mapOK n l = true) {t : Int} (ht : t ∈ l) : 0 ≤ t ∧ t ≤ 1000000 := by
  unfold mapOK at h
  exact of_decide_eq_true (List.all_eq_true.1 (Bool.and_eq_true_iff.1 h).2 t ht)
/-- The map's times as they are read. -/
def dM (n : Int) (es : List (List AC)) : Option (List Int) := bnd (dI es) fun l => (match mapOK n l with | true => some l | false => none)
theorem dM_rI {n : Int} {l : List Int} (h : mapOK n l = true) : dM n (rI l) = some l := by
  unfold dM; rw [dI_rI (by have := mapOK_len h; have : LIM = 9223372036854775807 := rfl; omega)]; simp [h]
theorem dM_inv {n : Int} {es : List (List AC)} {l : List Int} (h : dM n es = some l) : es = rI l ∧ mapOK n l = true := by
  unfold dM at h
  obtain ⟨l', h1, h2⟩ := bnd_some h
  split at h2
  · rename_i hm; cases h2; exact ⟨(dI_inv h1).1, hm⟩
  · cases h2

def timeM (n : Int) (l : List Int) (a b : Int) : Option Int := if 0 ≤ a ∧ a < n ∧ 0 ≤ b ∧ b < n then l[(a * n + b).toNat]? else none
def wayM (n : Int) (l : List Int) (a b : Int) : Int := (timeM n l a b).getD 0
theorem wayM_le {n : Int} {l : List Int} (h : mapOK n l = true) (a b : Int) : 0 ≤ wayM n l a b ∧ wayM n l a b ≤ 1000000 := by
  unfold wayM timeM
  split
  · cases e : l[(a * n + b).toNat]? with
    | none => simp
    | some t => exact mapOK_mem h (List.mem_of_getElem? e)
  · simp
theorem idx_le {n a b : Int} (hn : 1 ≤ n ∧ n ≤ 12) (ha : 0 ≤ a ∧ a < n) (hb : 0 ≤ b ∧ b < n) : 0 ≤ a * n ∧ a * n + b < n * n := by
  have h1 : 0 ≤ a * n := Int.mul_nonneg ha.1 (by omega)
  have h2 : a * n ≤ (n - 1) * n := Int.mul_le_mul_of_nonneg_right (by omega) (by omega)
  have h3 : (n - 1) * n = n * n - n := by rw [Int.sub_mul]; omega
  omega
theorem timeM_in {n : Int} {l : List Int} (h : mapOK n l = true) {a b : Int} (ha : 0 ≤ a ∧ a < n) (hb : 0 ≤ b ∧ b < n) : IntKind.wrap .i64 (IntKind.wrap .i64 (a * n) + b) = a * n + b ∧ 0 ≤ a * n + b ∧ ∃ t, l[(a * n + b).toNat]? = some t ∧ timeM n l a b = some t := by
  obtain ⟨h1, h2, h3⟩ := mapOK_n h
  have hi := idx_le ⟨h1, h2⟩ ha hb
  have hq := sq_le h1 h2
  have e1 : IntKind.wrap .i64 (a * n) = a * n := wrap_in (by omega) (by omega)
  have e2 : IntKind.wrap .i64 (a * n + b) = a * n + b := wrap_in (by omega) (by omega)
  refine ⟨by rw [e1, e2], by omega, ?_⟩
  have hlt : (a * n + b).toNat < l.length := by omega
  exact ⟨l[(a * n + b).toNat], List.getElem?_eq_getElem hlt, by unfold timeM; rw [if_pos ⟨ha.1, ha.2, hb.1, hb.2⟩]; exact List.getElem?_eq_getElem hlt⟩
def rTime (o : Option Int) : AV := .tup [aInt .i64 (o.getD 0), aBool o.isSome]
theorem gtime_ok {n : Int} {l : List Int} (h : mapOK n l = true) (a b : Int) : Contract Try.prog 54 [.c (.rp false [.v (.int .i64 n), .ro false (rI l)] 0), aInt .i64 a, aInt .i64 b] [] (rTime (timeM n l a b)) [] := by
  refine gtime_c n (rI l) a b ?_
  simp only [gtime_T, out_ite, out_bnd, out_ret, out_no]
  repeat' (first | refine eq_dec ⟨fun _ => ?_, fun _ => ?_⟩)
  case refine_2.refine_2.refine_2.refine_2.refine_1 =>
    obtain ⟨e1, e2, t, e3, e4⟩ := timeM_in h (a := a) (b := b) (by omega) (by omega)
    rw [e1, e4]; simp only [bnd_some', bnd_none', bnd_map', ite_true', ite_false', sel_true', sel_false', optK_some, optK_none, getE_rI, len_rI, szL_rI, getE_rO, len_rO, szL_rO, getE_rD, len_rD, szL_rD, getE_rS, len_rS, szL_rS, getE_rV, len_rV, szL_rV, getE_rR, len_rR, szL_rR, szCk_rI, szCk_rO, szCk_rD, szCk_rS, szCk_rV, ckR_rI, ckR_rO, ckR_rS, ckR_rV, take_rO, take_rS, gO_0, gO_1, gO_2, gO_3, gO_4, gO_5, gO_6, gO_7, gO_8, gO_9, gD_0, gD_1, gD_2, gD_3, gD_4, gD_5, gS_0, gS_1, gV_0, gV_1, gV_2, gV_3, gV_4, gV_5, gW_0, gW_1, gSi_0, gSi_1, gSi_2, gSi_3, gSp_0, gSp_1, gSp_2, gSp_3, gF_0, gF_1, gR_0, gR_1, gR_2, cInt_I, Option.map_some, Int.toNat_natCast, Int.ofNat_lt, Int.natCast_nonneg, decide_true, decide_false, and_self, List.length_append, List.length_cons, List.length_nil, Nat.zero_add, Nat.add_zero, Bool.true_or, Bool.false_or, Bool.true_and, Bool.false_and, aInt_eq, aBool_eq, e3, rTime]; rfl
  case refine_2.refine_2.refine_2.refine_2.refine_2 =>
    obtain ⟨e1, e2, _⟩ := timeM_in h (a := a) (b := b) (by omega) (by omega)
    exfalso; omega
  all_goals
    have : timeM n l a b = none := by unfold timeM; rw [if_neg (by omega)]
    rw [this]; rfl
noncomputable def gtime_H (G : GT) : GT := gAdd 54 (fun a H => match a, H with | [.c (.rp false [.v (.int .i64 n), .ro false es] 0), .c (.v (.int .i64 a)), .c (.v (.int .i64 b))], [] => bnd (dM n es) fun l => some (n, l, a, b) | _, _ => none) (fun p K => K (rTime (timeM p.1 p.2.1 p.2.2.1 p.2.2.2)) []) G
theorem gtime_hg {G : GT} (h : GoodG Try.prog G) : GoodG Try.prog (gtime_H G) := by
  refine GoodG.add (fun a H p hp K out hk => ?_) h
  split at hp
  · obtain ⟨l, h1, h2⟩ := bnd_some hp
    cases h2
    obtain ⟨rfl, h3⟩ := dM_inv h1
    exact ⟨_, _, gtime_ok h3 _ _, hk⟩
  · cases hp
theorem r4time_ok {n : Int} {l : List Int} (h : mapOK n l = true) (a b : Int) : Contract Try.prog 49 [.c (.rp false [.v (.int .i64 n), .ro false (rI l)] 0), aInt .i64 a, aInt .i64 b] [] (rTime (timeM n l a b)) [] := by
  refine r4time_c n (rI l) a b ?_
  simp only [r4time_T, out_ite, out_bnd, out_ret, out_no]
  repeat' (first | refine eq_dec ⟨fun _ => ?_, fun _ => ?_⟩)
  case refine_2.refine_2.refine_2.refine_2.refine_1 =>
    obtain ⟨e1, e2, t, e3, e4⟩ := timeM_in h (a := a) (b := b) (by omega) (by omega)
    rw [e1, e4]; simp only [bnd_some', bnd_none', bnd_map', ite_true', ite_false', sel_true', sel_false', optK_some, optK_none, getE_rI, len_rI, szL_rI, getE_rO, len_rO, szL_rO, getE_rD, len_rD, szL_rD, getE_rS, len_rS, szL_rS, getE_rV, len_rV, szL_rV, getE_rR, len_rR, szL_rR, szCk_rI, szCk_rO, szCk_rD, szCk_rS, szCk_rV, ckR_rI, ckR_rO, ckR_rS, ckR_rV, take_rO, take_rS, gO_0, gO_1, gO_2, gO_3, gO_4, gO_5, gO_6, gO_7, gO_8, gO_9, gD_0, gD_1, gD_2, gD_3, gD_4, gD_5, gS_0, gS_1, gV_0, gV_1, gV_2, gV_3, gV_4, gV_5, gW_0, gW_1, gSi_0, gSi_1, gSi_2, gSi_3, gSp_0, gSp_1, gSp_2, gSp_3, gF_0, gF_1, gR_0, gR_1, gR_2, cInt_I, Option.map_some, Int.toNat_natCast, Int.ofNat_lt, Int.natCast_nonneg, decide_true, decide_false, and_self, List.length_append, List.length_cons, List.length_nil, Nat.zero_add, Nat.add_zero, Bool.true_or, Bool.false_or, Bool.true_and, Bool.false_and, aInt_eq, aBool_eq, e3, rTime]; rfl
  case refine_2.refine_2.refine_2.refine_2.refine_2 =>
    obtain ⟨e1, e2, _⟩ := timeM_in h (a := a) (b := b) (by omega) (by omega)
    exfalso; omega
  all_goals
    have : timeM n l a b = none := by unfold timeM; rw [if_neg (by omega)]
    rw [this]; rfl
noncomputable def r4time_H (G : GT) : GT := gAdd 49 (fun a H => match a, H with | [.c (.rp false [.v (.int .i64 n), .ro false es] 0), .c (.v (.int .i64 a)), .c (.v (.int .i64 b))], [] => bnd (dM n es) fun l => some (n, l, a, b) | _, _ => none) (fun p K => K (rTime (timeM p.1 p.2.1 p.2.2.1 p.2.2.2)) []) G
theorem r4time_hg {G : GT} (h : GoodG Try.prog G) : GoodG Try.prog (r4time_H G) := by
  refine GoodG.add (fun a H p hp K out hk => ?_) h
  split at hp
  · obtain ⟨l, h1, h2⟩ := bnd_some hp
    cases h2
    obtain ⟨rfl, h3⟩ := dM_inv h1
    exact ⟨_, _, r4time_ok h3 _ _, hk⟩
  · cases hp

/-- The first time of a window that is not below an arrival. -/
def beginW (a b c : Int) : Option Int := if 0 ≤ a ∧ a ≤ b ∧ b ≤ 1000000 ∧ c ≤ b then some (if a > c then a else c) else none
theorem begin_ok (a b c : Int) : Contract Try.prog 55 [.agg [.v (.int .i64 a), .v (.int .i64 b)], aInt .i64 c] [] (rTime (beginW a b c)) [] := by
  refine begin_c a b c ?_
  simp only [begin_T, out_ite, out_bnd, out_ret, out_no]
  repeat' (first | refine eq_dec ⟨fun _ => ?_, fun _ => ?_⟩ | refine eq_ndec ⟨fun _ => ?_, fun _ => ?_⟩)
  all_goals first
    | (have : beginW a b c = none := by unfold beginW; rw [if_neg (by omega)]
       rw [this]; rfl)
    | (have : beginW a b c = some (if a > c then a else c) := by unfold beginW; rw [if_pos (by omega)]
       rw [this]; rfl)
noncomputable def begin_H (G : GT) : GT := gAdd 55 (fun a H => match a, H with | [.agg [.v (.int .i64 a), .v (.int .i64 b)], .c (.v (.int .i64 c))], [] => some (a, b, c) | _, _ => none) (fun p K => K (rTime (beginW p.1 p.2.1 p.2.2)) []) G
theorem begin_hg {G : GT} (h : GoodG Try.prog G) : GoodG Try.prog (begin_H G) := by
  refine GoodG.add (fun a H p hp K out hk => ?_) h
  split at hp
  · cases hp
    exact ⟨_, _, begin_ok _ _ _, hk⟩
  · cases hp
theorem r4begin_ok (a b c : Int) : Contract Try.prog 103 [.agg [.v (.int .i64 a), .v (.int .i64 b)], aInt .i64 c] [] (rTime (beginW a b c)) [] := by
  refine r4begin_c a b c ?_
  simp only [r4begin_T, out_ite, out_bnd, out_ret, out_no]
  repeat' (first | refine eq_dec ⟨fun _ => ?_, fun _ => ?_⟩ | refine eq_ndec ⟨fun _ => ?_, fun _ => ?_⟩)
  all_goals first
    | (have : beginW a b c = none := by unfold beginW; rw [if_neg (by omega)]
       rw [this]; rfl)
    | (have : beginW a b c = some a := by unfold beginW; rw [if_pos (by omega), if_pos (by omega)]
       rw [this]; rfl)
    | (have : beginW a b c = some c := by unfold beginW; rw [if_pos (by omega), if_neg (by omega)]
       rw [this]; rfl)
noncomputable def r4begin_H (G : GT) : GT := gAdd 103 (fun a H => match a, H with | [.agg [.v (.int .i64 a), .v (.int .i64 b)], .c (.v (.int .i64 c))], [] => some (a, b, c) | _, _ => none) (fun p K => K (rTime (beginW p.1 p.2.1 p.2.2)) []) G
theorem r4begin_hg {G : GT} (h : GoodG Try.prog G) : GoodG Try.prog (r4begin_H G) := by
  refine GoodG.add (fun a H p hp K out hk => ?_) h
  split at hp
  · cases hp
    exact ⟨_, _, r4begin_ok _ _ _, hk⟩
  · cases hp

def siteO (o : Ord) (b : Bool) : Sit := if b then ⟨o.dp, o.df, o.dt, o.ds⟩ else ⟨o.pp, o.pf, o.pt, o.ps⟩
/-- The answer to a driver. -/
def drvE (n : Int) (d : Drv) : Int := if 1 ≤ d.id ∧ d.id ≤ 1000000 then (if 1 ≤ d.room ∧ d.room ≤ 1000 then (if 0 ≤ d.home ∧ d.home < n then (if 0 ≤ d.frm ∧ d.frm ≤ d.till ∧ d.till ≤ 1000000 then 0 else 13) else 12) else 14) else 1
theorem ddriver_ok {n : Int} (hn : nOK n = true) (es : List (List AC)) (d : Drv) : Contract Try.prog 51 [.c (.rp false [.v (.int .i64 n), .ro false es] 0), .agg (cD d)] [] (aInt .i64 (drvE n d)) [] := by
  have hn' : 1 ≤ n ∧ n ≤ 12 := of_decide_eq_true hn
  have hw1 : IntKind.wrap .i64 (n - 1) = n - 1 := wrap_in (by omega) (by omega)
  refine ddriver_c n es d.id d.room d.home d.frm d.till d.ret ?_
  simp only [ddriver_T, out_ite, out_bnd, out_ret, out_no, hw1]
  repeat' (first | refine eq_dec ⟨fun _ => ?_, fun _ => ?_⟩ | refine eq_ndec ⟨fun _ => ?_, fun _ => ?_⟩)
  all_goals (
    unfold drvE
    repeat' split
    all_goals first | rfl | (exfalso; omega))
theorem r6driver_ok (n : Int) (es : List (List AC)) (d : Drv) : Contract Try.prog 68 [.c (.rp false [.v (.int .i64 n), .ro false es] 0), .agg (cD d)] [] (aInt .i64 (drvE n d)) [] := by
  refine r6driver_c n es d.id d.room d.home d.frm d.till d.ret ?_
  simp only [r6driver_T, out_ite, out_bnd, out_ret, out_no]
  repeat' (first | refine eq_dec ⟨fun _ => ?_, fun _ => ?_⟩ | refine eq_ndec ⟨fun _ => ?_, fun _ => ?_⟩)
  all_goals (
    unfold drvE
    repeat' split
    all_goals first | rfl | (exfalso; omega))
noncomputable def ddriver_H (G : GT) : GT := gAdd 51 (fun a H => match a, H with | [.c (.rp false [.v (.int .i64 n), .ro false es] 0), .agg cs], [] => bnd (uD cs) fun d => (match nOK n with | true => some (n, d) | false => none) | _, _ => none) (fun p K => K (aInt .i64 (drvE p.1 p.2)) []) G
theorem ddriver_hg {G : GT} (h : GoodG Try.prog G) : GoodG Try.prog (ddriver_H G) := by
  refine GoodG.add (fun a H p hp K out hk => ?_) h
  split at hp
  · obtain ⟨d, h1, h2⟩ := bnd_some hp
    split at h2
    · rename_i hn
      cases h2
      cases uD_inv _ _ h1
      exact ⟨_, _, ddriver_ok hn _ d, hk⟩
    · cases h2
  · cases hp
noncomputable def r6driver_H (G : GT) : GT := gAdd 68 (fun a H => match a, H with | [.c (.rp false [.v (.int .i64 n), .ro false es] 0), .agg cs], [] => bnd (uD cs) fun d => some (n, d) | _, _ => none) (fun p K => K (aInt .i64 (drvE p.1 p.2)) []) G
theorem r6driver_hg {G : GT} (h : GoodG Try.prog G) : GoodG Try.prog (r6driver_H G) := by
  refine GoodG.add (fun a H p hp K out hk => ?_) h
  split at hp
  · obtain ⟨d, h1, h2⟩ := bnd_some hp
    cases h2
    cases uD_inv _ _ h1
    exact ⟨_, _, r6driver_ok _ _ d, hk⟩
  · cases hp
end Go.Proofs.Ytdognggfplnkiaa
