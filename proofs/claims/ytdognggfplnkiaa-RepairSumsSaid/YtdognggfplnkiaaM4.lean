/-
  Contracts of the functions with one or two loops: find, driver, has, right, known.
-/
import Derived.Test.YtdognggfplnkiaaF4
namespace Go.Proofs.Ytdognggfplnkiaa
open Go.AM
set_option linter.unusedVariables false
set_option linter.unusedSimpArgs false

def zO : Ord := ⟨0, 0, 0, 0, 0, 0, 0, 0, 0, 0⟩
def zD : Drv := ⟨0, 0, 0, 0, 0, false⟩
def findO (os : List Ord) (id : Int) : Option Ord := os.find? (·.id == id)
def rFind (o : Option Ord) : AV := .tup [.agg (cO (o.getD zO)), .c (bC o.isSome)]
theorem find_loop (os : List Ord) (id : Int) (hl : os.length ≤ LIM) : ∀ (B A : List Ord), os = A ++ B → Goes C_find (rFind (findO B id)) [] (find_j0 os id A.length) := by
  intro B
  induction B with
  | nil => intro A h; rw [List.append_nil] at h; subst h; apply find_s0; simp [find_t0, findO, rFind, zO, cO]
  | cons o B ih =>
    intro A h
    obtain ⟨hlt, hk, h2⟩ := at_splt h
    have hw := wrap_nat (n := A.length) (by omega)
    have := ih (A ++ [o]) h2
    apply find_s0
    cases hid : o.id == id
    · simpa [find_t0, hlt, hk, hid, hw, findO] using this
    · simp [find_t0, hlt, hk, hid, findO, rFind] <;> rfl
theorem find_ok {os : List Ord} (hl : os.length ≤ LIM) (id : Int) : Contract Try.prog 57 [.c (.ro false (rO os)), aInt .i64 id] [] (rFind (findO os id)) [] :=
  find_c os id (by simpa [find_te] using find_loop os id hl os [] rfl)
noncomputable def find_G (G : GT) : GT := gAdd 57 (fun a H => match a, H with | [.c (.ro false es), .c (.v (.int .i64 id))], [] => bnd (dO es) fun os => some (os, id) | _, _ => none) (fun p K => K (rFind (findO p.1 p.2)) []) G
theorem find_g {G : GT} (h : GoodG Try.prog G) : GoodG Try.prog (find_G G) := by
  refine GoodG.add (fun a H p hp K out hk => ?_) h
  split at hp
  · obtain ⟨os, h1, h2⟩ := bnd_some hp
    cases h2
    obtain ⟨rfl, h3⟩ := dO_inv h1
    exact ⟨_, _, find_ok h3 _, hk⟩
  · cases hp

def drvD (ds : List Drv) (id : Int) : Option Drv := ds.find? (·.id == id)
def rDrv (o : Option Drv) : AV := .tup [.agg (cD (o.getD zD)), .c (bC o.isSome)]
theorem drv_loop (ds : List Drv) (id : Int) (hl : ds.length ≤ LIM) : ∀ (B A : List Drv), ds = A ++ B → Goes C_drv (rDrv (drvD B id)) [] (drv_j0 ds id A.length) := by
  intro B
  induction B with
  | nil => intro A h; rw [List.append_nil] at h; subst h; apply drv_s0; simp [drv_t0, drvD, rDrv, zD, cD]
  | cons o B ih =>
    intro A h
    obtain ⟨hlt, hk, h2⟩ := at_splt h
    have hw := wrap_nat (n := A.length) (by omega)
    have := ih (A ++ [o]) h2
    apply drv_s0
    cases hid : o.id == id
    · simpa [drv_t0, hlt, hk, hid, hw, drvD] using this
    · simp [drv_t0, hlt, hk, hid, drvD, rDrv] <;> rfl
theorem drv_ok {ds : List Drv} (hl : ds.length ≤ LIM) (id : Int) : Contract Try.prog 32 [.c (.ro false (rD ds)), aInt .i64 id] [] (rDrv (drvD ds id)) [] :=
  drv_c ds id (by simpa [drv_te] using drv_loop ds id hl ds [] rfl)
noncomputable def drv_G (G : GT) : GT := gAdd 32 (fun a H => match a, H with | [.c (.ro false es), .c (.v (.int .i64 id))], [] => bnd (dD es) fun ds => some (ds, id) | _, _ => none) (fun p K => K (rDrv (drvD p.1 p.2)) []) G
theorem drv_g {G : GT} (h : GoodG Try.prog G) : GoodG Try.prog (drv_G G) := by
  refine GoodG.add (fun a H p hp K out hk => ?_) h
  split at hp
  · obtain ⟨os, h1, h2⟩ := bnd_some hp
    cases h2
    obtain ⟨rfl, h3⟩ := dD_inv h1
    exact ⟨_, _, drv_ok h3 _, hk⟩
  · cases hp
theorem r9drv_loop (ds : List Drv) (id : Int) (hl : ds.length ≤ LIM) : ∀ (B A : List Drv), ds = A ++ B → Goes C_r9drv (rDrv (drvD B id)) [] (r9drv_j0 ds id A.length) := by
  intro B
  induction B with
  | nil => intro A h; rw [List.append_nil] at h; subst h; apply r9drv_s0; simp [r9drv_t0, drvD, rDrv, zD, cD]
  | cons o B ih =>
    intro A h
    obtain ⟨hlt, hk, h2⟩ := at_splt h
    have hw := wrap_nat (n := A.length) (by omega)
    have := ih (A ++ [o]) h2
    apply r9drv_s0
    cases hid : o.id == id
    · simpa [r9drv_t0, hlt, hk, hid, hw, drvD] using this
    · simp [r9drv_t0, hlt, hk, hid, drvD, rDrv] <;> rfl
theorem r9drv_ok {ds : List Drv} (hl : ds.length ≤ LIM) (id : Int) : Contract Try.prog 45 [.c (.ro false (rD ds)), aInt .i64 id] [] (rDrv (drvD ds id)) [] :=
  r9drv_c ds id (by simpa [r9drv_te] using r9drv_loop ds id hl ds [] rfl)
noncomputable def r9drv_G (G : GT) : GT := gAdd 45 (fun a H => match a, H with | [.c (.ro false es), .c (.v (.int .i64 id))], [] => bnd (dD es) fun ds => some (ds, id) | _, _ => none) (fun p K => K (rDrv (drvD p.1 p.2)) []) G
theorem r9drv_g {G : GT} (h : GoodG Try.prog G) : GoodG Try.prog (r9drv_G G) := by
  refine GoodG.add (fun a H p hp K out hk => ?_) h
  split at hp
  · obtain ⟨os, h1, h2⟩ := bnd_some hp
    cases h2
    obtain ⟨rfl, h3⟩ := dD_inv h1
    exact ⟨_, _, r9drv_ok h3 _, hk⟩
  · cases hp

/-- The number of the first that fits; -1: there is none. -/
def atI {α : Type} (p : α → Bool) : List α → Nat → Int
  | [], _ => -1
  | a :: r, i => if p a then (i : Int) else atI p r (i + 1)
theorem r6find_loop (os : List Ord) (id : Int) (hl : os.length ≤ LIM) : ∀ (B A : List Ord), os = A ++ B → Goes C_r6find (aInt .i64 (atI (fun o => o.id == id) B A.length)) [] (r6find_j0 os id A.length) := by
  intro B
  induction B with
  | nil => intro A h; rw [List.append_nil] at h; subst h; apply r6find_s0; simp [r6find_t0, atI]
  | cons o B ih =>
    intro A h
    obtain ⟨hlt, hk, h2⟩ := at_splt h
    have hw := wrap_nat (n := A.length) (by omega)
    have := ih (A ++ [o]) h2
    apply r6find_s0
    cases hid : o.id == id
    · simpa [r6find_t0, hlt, hk, hid, hw, atI] using this
    · simp [r6find_t0, hlt, hk, hid, atI]
theorem r6find_ok {os : List Ord} (hl : os.length ≤ LIM) (id : Int) : Contract Try.prog 48 [.c (.ro false (rO os)), aInt .i64 id] [] (aInt .i64 (atI (fun o => o.id == id) os 0)) [] :=
  r6find_c os id (by simpa [r6find_te] using r6find_loop os id hl os [] rfl)
noncomputable def r6find_G (G : GT) : GT := gAdd 48 (fun a H => match a, H with | [.c (.ro false es), .c (.v (.int .i64 id))], [] => bnd (dO es) fun os => some (os, id) | _, _ => none) (fun p K => K (aInt .i64 (atI (fun o => o.id == p.2) p.1 0)) []) G
theorem r6find_g {G : GT} (h : GoodG Try.prog G) : GoodG Try.prog (r6find_G G) := by
  refine GoodG.add (fun a H p hp K out hk => ?_) h
  split at hp
  · obtain ⟨os, h1, h2⟩ := bnd_some hp
    cases h2
    obtain ⟨rfl, h3⟩ := dO_inv h1
    exact ⟨_, _, r6find_ok h3 _, hk⟩
  · cases hp
theorem r12drv_loop (ds : List Drv) (id : Int) (hl : ds.length ≤ LIM) : ∀ (B A : List Drv), ds = A ++ B → Goes C_r12drv (aInt .i64 (atI (fun o => o.id == id) B A.length)) [] (r12drv_j0 ds id A.length) := by
  intro B
  induction B with
  | nil => intro A h; rw [List.append_nil] at h; subst h; apply r12drv_s0; simp [r12drv_t0, atI]
  | cons o B ih =>
    intro A h
    obtain ⟨hlt, hk, h2⟩ := at_splt h
    have hw := wrap_nat (n := A.length) (by omega)
    have := ih (A ++ [o]) h2
    apply r12drv_s0
    cases hid : o.id == id
    · simpa [r12drv_t0, hlt, hk, hid, hw, atI] using this
    · simp [r12drv_t0, hlt, hk, hid, atI]
theorem r12drv_ok {ds : List Drv} (hl : ds.length ≤ LIM) (id : Int) : Contract Try.prog 30 [.c (.ro false (rD ds)), aInt .i64 id] [] (aInt .i64 (atI (fun o => o.id == id) ds 0)) [] :=
  r12drv_c ds id (by simpa [r12drv_te] using r12drv_loop ds id hl ds [] rfl)
noncomputable def r12drv_G (G : GT) : GT := gAdd 30 (fun a H => match a, H with | [.c (.ro false es), .c (.v (.int .i64 id))], [] => bnd (dD es) fun ds => some (ds, id) | _, _ => none) (fun p K => K (aInt .i64 (atI (fun o => o.id == p.2) p.1 0)) []) G
theorem r12drv_g {G : GT} (h : GoodG Try.prog G) : GoodG Try.prog (r12drv_G G) := by
  refine GoodG.add (fun a H p hp K out hk => ?_) h
  split at hp
  · obtain ⟨os, h1, h2⟩ := bnd_some hp
    cases h2
    obtain ⟨rfl, h3⟩ := dD_inv h1
    exact ⟨_, _, r12drv_ok h3 _, hk⟩
  · cases hp

def hasS (l : List Stp) (s : Stp) : Bool := l.any fun x => x.ord == s.ord && x.drop == s.drop
theorem stands_loop (l : List Stp) (s : Stp) (hl : l.length ≤ LIM) : ∀ (B A : List Stp), l = A ++ B → Goes C_stands (aBool (hasS B s)) [] (stands_j0 l s A.length) := by
  intro B
  induction B with
  | nil => intro A h; rw [List.append_nil] at h; subst h; apply stands_s0; simp [stands_t0, hasS]
  | cons o B ih =>
    intro A h
    obtain ⟨hlt, hk, h2⟩ := at_split h
    have hw := wrap_nat (n := A.length) (by omega)
    have := ih (A ++ [o]) h2
    apply stands_s0
    cases hid : (o.ord == s.ord && o.drop == s.drop)
    · simpa only [bnd_some', bnd_none', bnd_map', ite_true', ite_false', sel_true', sel_false', optK_some, optK_none, getE_rI, len_rI, szL_rI, getE_rO, len_rO, szL_rO, getE_rD, len_rD, szL_rD, getE_rS, len_rS, szL_rS, getE_rV, len_rV, szL_rV, getE_rR, len_rR, szL_rR, szCk_rI, szCk_rO, szCk_rD, szCk_rS, szCk_rV, ckR_rI, ckR_rO, ckR_rS, ckR_rV, take_rO, take_rS, gO_0, gO_1, gO_2, gO_3, gO_4, gO_5, gO_6, gO_7, gO_8, gO_9, gD_0, gD_1, gD_2, gD_3, gD_4, gD_5, gS_0, gS_1, gV_0, gV_1, gV_2, gV_3, gV_4, gV_5, gW_0, gW_1, gSi_0, gSi_1, gSi_2, gSi_3, gSp_0, gSp_1, gSp_2, gSp_3, gF_0, gF_1, gR_0, gR_1, gR_2, cInt_I, Option.map_some, Int.toNat_natCast, Int.ofNat_lt, Int.natCast_nonneg, decide_true, decide_false, goesO_some, goes_ret, goesO_ite, goesO_if, and_self, List.length_append, List.length_cons, List.length_nil, Nat.zero_add, Nat.add_zero, Bool.true_or, Bool.false_or, Bool.true_and, Bool.false_and, aInt_eq, aBool_eq, stands_t0, hasS, List.any_cons, hlt, hk, hid, hw] using this
    · simp only [bnd_some', bnd_none', bnd_map', ite_true', ite_false', sel_true', sel_false', optK_some, optK_none, getE_rI, len_rI, szL_rI, getE_rO, len_rO, szL_rO, getE_rD, len_rD, szL_rD, getE_rS, len_rS, szL_rS, getE_rV, len_rV, szL_rV, getE_rR, len_rR, szL_rR, szCk_rI, szCk_rO, szCk_rD, szCk_rS, szCk_rV, ckR_rI, ckR_rO, ckR_rS, ckR_rV, take_rO, take_rS, gO_0, gO_1, gO_2, gO_3, gO_4, gO_5, gO_6, gO_7, gO_8, gO_9, gD_0, gD_1, gD_2, gD_3, gD_4, gD_5, gS_0, gS_1, gV_0, gV_1, gV_2, gV_3, gV_4, gV_5, gW_0, gW_1, gSi_0, gSi_1, gSi_2, gSi_3, gSp_0, gSp_1, gSp_2, gSp_3, gF_0, gF_1, gR_0, gR_1, gR_2, cInt_I, Option.map_some, Int.toNat_natCast, Int.ofNat_lt, Int.natCast_nonneg, decide_true, decide_false, goesO_some, goes_ret, goesO_ite, goesO_if, and_self, List.length_append, List.length_cons, List.length_nil, Nat.zero_add, Nat.add_zero, Bool.true_or, Bool.false_or, Bool.true_and, Bool.false_and, aInt_eq, aBool_eq, stands_t0, hasS, List.any_cons, hlt, hk, hid, hw]
theorem stands_ok {l : List Stp} (hl : l.length ≤ LIM) (s : Stp) : Contract Try.prog 75 [.c (.ro false (rS l)), .agg (cS s)] [] (aBool (hasS l s)) [] :=
  stands_c l s (by simpa [stands_te] using stands_loop l s hl l [] rfl)
noncomputable def stands_G (G : GT) : GT := gAdd 75 (fun a H => match a, H with | [.c (.ro false es), .agg [.v (.int .i64 x), .v (.bool y)]], [] => bnd (dS es) fun l => some (l, (⟨x, y⟩ : Stp)) | _, _ => none) (fun p K => K (aBool (hasS p.1 p.2)) []) G
theorem stands_g {G : GT} (h : GoodG Try.prog G) : GoodG Try.prog (stands_G G) := by
  refine GoodG.add (fun a H p hp K out hk => ?_) h
  split at hp
  · obtain ⟨os, h1, h2⟩ := bnd_some hp
    cases h2
    obtain ⟨rfl, h3⟩ := dS_inv h1
    exact ⟨_, _, stands_ok h3 ⟨_, _⟩, hk⟩
  · cases hp
theorem r6has_loop (l : List Stp) (s : Stp) (hl : l.length ≤ LIM) : ∀ (B A : List Stp), l = A ++ B → Goes C_r6has (aBool (hasS B s)) [] (r6has_j0 l s A.length) := by
  intro B
  induction B with
  | nil => intro A h; rw [List.append_nil] at h; subst h; apply r6has_s0; simp [r6has_t0, hasS]
  | cons o B ih =>
    intro A h
    obtain ⟨hlt, hk, h2⟩ := at_split h
    have hw := wrap_nat (n := A.length) (by omega)
    have := ih (A ++ [o]) h2
    apply r6has_s0
    cases hid : (o.ord == s.ord && o.drop == s.drop)
    · simpa only [bnd_some', bnd_none', bnd_map', ite_true', ite_false', sel_true', sel_false', optK_some, optK_none, getE_rI, len_rI, szL_rI, getE_rO, len_rO, szL_rO, getE_rD, len_rD, szL_rD, getE_rS, len_rS, szL_rS, getE_rV, len_rV, szL_rV, getE_rR, len_rR, szL_rR, szCk_rI, szCk_rO, szCk_rD, szCk_rS, szCk_rV, ckR_rI, ckR_rO, ckR_rS, ckR_rV, take_rO, take_rS, gO_0, gO_1, gO_2, gO_3, gO_4, gO_5, gO_6, gO_7, gO_8, gO_9, gD_0, gD_1, gD_2, gD_3, gD_4, gD_5, gS_0, gS_1, gV_0, gV_1, gV_2, gV_3, gV_4, gV_5, gW_0, gW_1, gSi_0, gSi_1, gSi_2, gSi_3, gSp_0, gSp_1, gSp_2, gSp_3, gF_0, gF_1, gR_0, gR_1, gR_2, cInt_I, Option.map_some, Int.toNat_natCast, Int.ofNat_lt, Int.natCast_nonneg, decide_true, decide_false, goesO_some, goes_ret, goesO_ite, goesO_if, and_self, List.length_append, List.length_cons, List.length_nil, Nat.zero_add, Nat.add_zero, Bool.true_or, Bool.false_or, Bool.true_and, Bool.false_and, aInt_eq, aBool_eq, r6has_t0, hasS, List.any_cons, hlt, hk, hid, hw] using this
    · simp only [bnd_some', bnd_none', bnd_map', ite_true', ite_false', sel_true', sel_false', optK_some, optK_none, getE_rI, len_rI, szL_rI, getE_rO, len_rO, szL_rO, getE_rD, len_rD, szL_rD, getE_rS, len_rS, szL_rS, getE_rV, len_rV, szL_rV, getE_rR, len_rR, szL_rR, szCk_rI, szCk_rO, szCk_rD, szCk_rS, szCk_rV, ckR_rI, ckR_rO, ckR_rS, ckR_rV, take_rO, take_rS, gO_0, gO_1, gO_2, gO_3, gO_4, gO_5, gO_6, gO_7, gO_8, gO_9, gD_0, gD_1, gD_2, gD_3, gD_4, gD_5, gS_0, gS_1, gV_0, gV_1, gV_2, gV_3, gV_4, gV_5, gW_0, gW_1, gSi_0, gSi_1, gSi_2, gSi_3, gSp_0, gSp_1, gSp_2, gSp_3, gF_0, gF_1, gR_0, gR_1, gR_2, cInt_I, Option.map_some, Int.toNat_natCast, Int.ofNat_lt, Int.natCast_nonneg, decide_true, decide_false, goesO_some, goes_ret, goesO_ite, goesO_if, and_self, List.length_append, List.length_cons, List.length_nil, Nat.zero_add, Nat.add_zero, Bool.true_or, Bool.false_or, Bool.true_and, Bool.false_and, aInt_eq, aBool_eq, r6has_t0, hasS, List.any_cons, hlt, hk, hid, hw]
theorem r6has_ok {l : List Stp} (hl : l.length ≤ LIM) (s : Stp) : Contract Try.prog 69 [.c (.ro false (rS l)), .agg (cS s)] [] (aBool (hasS l s)) [] :=
  r6has_c l s (by simpa [r6has_te] using r6has_loop l s hl l [] rfl)
noncomputable def r6has_G (G : GT) : GT := gAdd 69 (fun a H => match a, H with | [.c (.ro false es), .agg [.v (.int .i64 x), .v (.bool y)]], [] => bnd (dS es) fun l => some (l, (⟨x, y⟩ : Stp)) | _, _ => none) (fun p K => K (aBool (hasS p.1 p.2)) []) G
theorem r6has_g {G : GT} (h : GoodG Try.prog G) : GoodG Try.prog (r6has_G G) := by
  refine GoodG.add (fun a H p hp K out hk => ?_) h
  split at hp
  · obtain ⟨os, h1, h2⟩ := bnd_some hp
    cases h2
    obtain ⟨rfl, h3⟩ := dS_inv h1
    exact ⟨_, _, r6has_ok h3 ⟨_, _⟩, hk⟩
  · cases hp
end Go.Proofs.Ytdognggfplnkiaa
