/-
  Contracts: wrong, served, Way, Together, Well.
-/
import Derived.Test.YtdognggfplnkiaaF5
namespace Go.Proofs.Ytdognggfplnkiaa
open Go.AM
set_option linter.unusedVariables false
set_option linter.unusedSimpArgs false

def wrongE (os : List Ord) (A : List Stp) (s : Stp) : Int := if (findO os s.ord).isSome then (if hasS A s then 16 else if s.drop && !hasS A ⟨s.ord, false⟩ then 17 else 0) else 8
def rWrong (os : List Ord) (A : List Stp) (s : Stp) : AV := .tup [.agg (cO ((findO os s.ord).getD zO)), aInt .i64 (wrongE os A s)]
theorem wrong_ok {os : List Ord} (hl : os.length ≤ LIM) {A : List Stp} (hA : A.length ≤ LIM) (s : Stp) : Contract Try.prog 52 [.c (.ro false (rO os)), .c (.ro false (rS A)), .agg (cS s)] [] (rWrong os A s) [] := by
  refine wrong_c os A s ?_
  simp only [wrong_te, dO_rO hl, dS_rS hA, bnd_some', bnd_none', bnd_map', ite_true', ite_false', sel_true', sel_false', optK_some, optK_none, getE_rI, len_rI, szL_rI, getE_rO, len_rO, szL_rO, getE_rD, len_rD, szL_rD, getE_rS, len_rS, szL_rS, getE_rV, len_rV, szL_rV, getE_rR, len_rR, szL_rR, szCk_rI, szCk_rO, szCk_rD, szCk_rS, szCk_rV, ckR_rI, ckR_rO, ckR_rS, ckR_rV, take_rO, take_rS, gO_0, gO_1, gO_2, gO_3, gO_4, gO_5, gO_6, gO_7, gO_8, gO_9, gD_0, gD_1, gD_2, gD_3, gD_4, gD_5, gS_0, gS_1, gV_0, gV_1, gV_2, gV_3, gV_4, gV_5, gW_0, gW_1, gSi_0, gSi_1, gSi_2, gSi_3, gSp_0, gSp_1, gSp_2, gSp_3, gF_0, gF_1, gR_0, gR_1, gR_2, cInt_I, Option.map_some, Int.toNat_natCast, Int.ofNat_lt, Int.natCast_nonneg, decide_true, decide_false, and_self, List.length_append, List.length_cons, List.length_nil, Nat.zero_add, Nat.add_zero, Bool.true_or, Bool.false_or, Bool.true_and, Bool.false_and, aInt_eq, aBool_eq, rWrong, wrongE]
  cases h1 : (findO os s.ord).isSome
  · simp [cO]
  · cases h2 : hasS A s
    · cases h3 : s.drop
      · simp [cO, h1, h2, h3]
      · cases h4 : hasS A ⟨s.ord, false⟩
        · simp [cO, h1, h2, h3, h4]
        · simp [cO, h1, h2, h3, h4]
    · have : hasS A ⟨s.ord, s.drop⟩ = true := h2
      simp [cO, h1, h2, this]
noncomputable def wrong_G (G : GT) : GT := gAdd 52 (fun a H => match a, H with | [.c (.ro false es), .c (.ro false l), .agg [.v (.int .i64 x), .v (.bool y)]], [] => bnd (dO es) fun os => bnd (dS l) fun A => some (os, A, (⟨x, y⟩ : Stp)) | _, _ => none) (fun p K => K (rWrong p.1 p.2.1 p.2.2) []) G
theorem wrong_g {G : GT} (h : GoodG Try.prog G) : GoodG Try.prog (wrong_G G) := by
  refine GoodG.add (fun a H p hp K out hk => ?_) h
  split at hp
  · obtain ⟨os, h1, h2⟩ := bnd_some hp
    obtain ⟨A, h3, h4⟩ := bnd_some h2
    cases h4
    obtain ⟨rfl, h5⟩ := dO_inv h1
    obtain ⟨rfl, h6⟩ := dS_inv h3
    exact ⟨_, _, wrong_ok h5 h6 ⟨_, _⟩, hk⟩
  · cases hp

def srvPre (b : Int) (s : Sit) : Bool := decide (0 ≤ b ∧ b ≤ 1000000 ∧ 0 ≤ s.serv ∧ s.serv ≤ 1000000)
def srvO (n : Int) (l : List Int) (a b : Int) (s : Sit) (u : Int) : Option (Int × Int) := match beginW s.frm s.till (b + wayM n l a s.place) with
  | none => none
  | some g => if g + s.serv > u then none else some (g, g + s.serv)
def rSrv (o : Option (Int × Int)) : AV := .tup [aInt .i64 (o.getD (0, 0)).1, aInt .i64 (o.getD (0, 0)).2, aBool o.isSome]
theorem beginW_le {a b c g : Int} (h : beginW a b c = some g) : 0 ≤ g ∧ g ≤ 1000000 ∧ c ≤ g ∧ a ≤ g ∧ g ≤ b := by
  unfold beginW at h
  split at h
  · cases h; split <;> omega
  · cases h
theorem srv_ok {n : Int} {l : List Int} (hm : mapOK n l = true) (a b : Int) (s : Sit) (u : Int) (hp : srvPre b s = true) : Contract Try.prog 70 [.c (.rp false [.v (.int .i64 n), .ro false (rI l)] 0), aInt .i64 a, aInt .i64 b, .agg (cSi s), aInt .i64 u] [] (rSrv (srvO n l a b s u)) [] := by
  refine srv_c n l a b s u ?_
  have hp' := of_decide_eq_true hp
  have hw := wayM_le hm a s.place
  have e1 : (timeM n l a s.place).getD 0 = wayM n l a s.place := rfl
  have e2 : IntKind.wrap .i64 (b + wayM n l a s.place) = b + wayM n l a s.place := wrap_in (by omega) (by omega)
  simp only [srv_te, dM_rI hm, bnd_some', bnd_none', bnd_map', ite_true', ite_false', sel_true', sel_false', optK_some, optK_none, getE_rI, len_rI, szL_rI, getE_rO, len_rO, szL_rO, getE_rD, len_rD, szL_rD, getE_rS, len_rS, szL_rS, getE_rV, len_rV, szL_rV, getE_rR, len_rR, szL_rR, szCk_rI, szCk_rO, szCk_rD, szCk_rS, szCk_rV, ckR_rI, ckR_rO, ckR_rS, ckR_rV, take_rO, take_rS, gO_0, gO_1, gO_2, gO_3, gO_4, gO_5, gO_6, gO_7, gO_8, gO_9, gD_0, gD_1, gD_2, gD_3, gD_4, gD_5, gS_0, gS_1, gV_0, gV_1, gV_2, gV_3, gV_4, gV_5, gW_0, gW_1, gSi_0, gSi_1, gSi_2, gSi_3, gSp_0, gSp_1, gSp_2, gSp_3, gF_0, gF_1, gR_0, gR_1, gR_2, cInt_I, Option.map_some, Int.toNat_natCast, Int.ofNat_lt, Int.natCast_nonneg, decide_true, decide_false, and_self, List.length_append, List.length_cons, List.length_nil, Nat.zero_add, Nat.add_zero, Bool.true_or, Bool.false_or, Bool.true_and, Bool.false_and, aInt_eq, aBool_eq, e1, e2, srvO]
  cases h : beginW s.frm s.till (b + wayM n l a s.place) with
  | none => simp [rSrv]
  | some g =>
    have hg := beginW_le h
    have e3 : IntKind.wrap .i64 (g + s.serv) = g + s.serv := wrap_in (by omega) (by omega)
    by_cases hu : g + s.serv > u <;> simp [rSrv, e3, hu]
noncomputable def srv_G (G : GT) : GT := gAdd 70 (fun a H => match a, H with | [.c (.rp false [.v (.int .i64 n), .ro false es] 0), .c (.v (.int .i64 a)), .c (.v (.int .i64 b)), .agg [.v (.int .i64 s0), .v (.int .i64 s1), .v (.int .i64 s2), .v (.int .i64 s3)], .c (.v (.int .i64 u))], [] => bnd (dM n es) fun l => (match srvPre b ⟨s0, s1, s2, s3⟩ with | true => some (n, l, a, b, (⟨s0, s1, s2, s3⟩ : Sit), u) | false => none) | _, _ => none) (fun p K => K (rSrv (srvO p.1 p.2.1 p.2.2.1 p.2.2.2.1 p.2.2.2.2.1 p.2.2.2.2.2)) []) G
theorem srv_g {G : GT} (h : GoodG Try.prog G) : GoodG Try.prog (srv_G G) := by
  refine GoodG.add (fun a H p hp K out hk => ?_) h
  split at hp
  · obtain ⟨l, h1, h2⟩ := bnd_some hp
    split at h2
    · rename_i hs
      cases h2
      obtain ⟨rfl, h5⟩ := dM_inv h1
      exact ⟨_, _, srv_ok h5 _ _ ⟨_, _, _, _⟩ _ hs, hk⟩
    · cases h2
  · cases hp

def placeO (os : List Ord) (s : Stp) : Int := (siteO ((findO os s.ord).getD zO) s.drop).place
def wayGo (n : Int) (l : List Int) (os : List Ord) : Int → List Stp → Int
  | _, [] => 0
  | at_, s :: B => wayM n l at_ (placeO os s) + wayGo n l os (placeO os s) B
theorem wayGo_le {n : Int} {l : List Int} (hm : mapOK n l = true) (os : List Ord) : ∀ (B : List Stp) (a : Int), 0 ≤ wayGo n l os a B ∧ wayGo n l os a B ≤ 1000000 * B.length
  | [], a => by simp [wayGo]
  | s :: B, a => by
    have h1 := wayM_le hm a (placeO os s)
    have h2 := wayGo_le hm os B (placeO os s)
    simp only [wayGo, List.length_cons]
    omega
theorem way_loop {n : Int} {l : List Int} (hm : mapOK n l = true) (d : Drv) {os : List Ord} (ho : os.length ≤ LIM) {stops : List Stp} (hs : stops.length ≤ SM) : ∀ (B A : List Stp) (t a : Int), stops = A ++ B → 0 ≤ t → t ≤ 1000000 * A.length → Goes C_way (aInt .i64 (t + wayGo n l os a B)) [] (way_j0 n l d os stops t a A.length) := by
  intro B
  induction B with
  | nil => intro A t a h _ _; rw [List.append_nil] at h; subst h; apply way_s0; simp [way_t0, wayGo]
  | cons s B ih =>
    intro A t a h h0 h1
    obtain ⟨hlt, hk, h2⟩ := at_split h
    have hLIM : LIM = 9223372036854775807 := rfl
    have hSM : SM = 1048576 := rfl
    have hw := wrap_nat (n := A.length) (by omega)
    have hy := wayM_le hm a (placeO os s)
    have hw2 : IntKind.wrap .i64 (t + wayM n l a (placeO os s)) = t + wayM n l a (placeO os s) := wrap_in (by omega) (by omega)
    have := ih (A ++ [s]) (t + wayM n l a (placeO os s)) (placeO os s) h2 (by omega) (by simp; omega)
    apply way_s0
    rw [List.length_append, List.length_cons, List.length_nil, Nat.zero_add, Int.add_assoc] at this
    simp only [way_t0, bnd_some', bnd_none', bnd_map', ite_true', ite_false', sel_true', sel_false', optK_some, optK_none, getE_rI, len_rI, szL_rI, getE_rO, len_rO, szL_rO, getE_rD, len_rD, szL_rD, getE_rS, len_rS, szL_rS, getE_rV, len_rV, szL_rV, getE_rR, len_rR, szL_rR, szCk_rI, szCk_rO, szCk_rD, szCk_rS, szCk_rV, ckR_rI, ckR_rO, ckR_rS, ckR_rV, take_rO, take_rS, gO_0, gO_1, gO_2, gO_3, gO_4, gO_5, gO_6, gO_7, gO_8, gO_9, gD_0, gD_1, gD_2, gD_3, gD_4, gD_5, gS_0, gS_1, gV_0, gV_1, gV_2, gV_3, gV_4, gV_5, gW_0, gW_1, gSi_0, gSi_1, gSi_2, gSi_3, gSp_0, gSp_1, gSp_2, gSp_3, gF_0, gF_1, gR_0, gR_1, gR_2, cInt_I, Option.map_some, Int.toNat_natCast, Int.ofNat_lt, Int.natCast_nonneg, decide_true, decide_false, and_self, List.length_append, List.length_cons, List.length_nil, Nat.zero_add, Nat.add_zero, Bool.true_or, Bool.false_or, Bool.true_and, Bool.false_and, aInt_eq, aBool_eq, hlt, hk, hw, dO_rO ho, dM_rI hm]
    cases hd : s.drop
    · have e : placeO os s = ((findO os s.ord).getD zO).pp := by simp [placeO, siteO, hd]
      rw [e] at this hw2
      have e1 : (timeM n l a ((findO os s.ord).getD zO).pp).getD 0 = wayM n l a ((findO os s.ord).getD zO).pp := rfl
      simpa only [bnd_some', bnd_none', bnd_map', ite_true', ite_false', sel_true', sel_false', optK_some, optK_none, getE_rI, len_rI, szL_rI, getE_rO, len_rO, szL_rO, getE_rD, len_rD, szL_rD, getE_rS, len_rS, szL_rS, getE_rV, len_rV, szL_rV, getE_rR, len_rR, szL_rR, szCk_rI, szCk_rO, szCk_rD, szCk_rS, szCk_rV, ckR_rI, ckR_rO, ckR_rS, ckR_rV, take_rO, take_rS, gO_0, gO_1, gO_2, gO_3, gO_4, gO_5, gO_6, gO_7, gO_8, gO_9, gD_0, gD_1, gD_2, gD_3, gD_4, gD_5, gS_0, gS_1, gV_0, gV_1, gV_2, gV_3, gV_4, gV_5, gW_0, gW_1, gSi_0, gSi_1, gSi_2, gSi_3, gSp_0, gSp_1, gSp_2, gSp_3, gF_0, gF_1, gR_0, gR_1, gR_2, cInt_I, Option.map_some, Int.toNat_natCast, Int.ofNat_lt, Int.natCast_nonneg, decide_true, decide_false, goesO_some, goes_ret, goesO_ite, goesO_if, and_self, List.length_append, List.length_cons, List.length_nil, Nat.zero_add, Nat.add_zero, Bool.true_or, Bool.false_or, Bool.true_and, Bool.false_and, aInt_eq, aBool_eq, wayGo, e, e1, hw2] using this
    · have e : placeO os s = ((findO os s.ord).getD zO).dp := by simp [placeO, siteO, hd]
      rw [e] at this hw2
      have e1 : (timeM n l a ((findO os s.ord).getD zO).dp).getD 0 = wayM n l a ((findO os s.ord).getD zO).dp := rfl
      simpa only [bnd_some', bnd_none', bnd_map', ite_true', ite_false', sel_true', sel_false', optK_some, optK_none, getE_rI, len_rI, szL_rI, getE_rO, len_rO, szL_rO, getE_rD, len_rD, szL_rD, getE_rS, len_rS, szL_rS, getE_rV, len_rV, szL_rV, getE_rR, len_rR, szL_rR, szCk_rI, szCk_rO, szCk_rD, szCk_rS, szCk_rV, ckR_rI, ckR_rO, ckR_rS, ckR_rV, take_rO, take_rS, gO_0, gO_1, gO_2, gO_3, gO_4, gO_5, gO_6, gO_7, gO_8, gO_9, gD_0, gD_1, gD_2, gD_3, gD_4, gD_5, gS_0, gS_1, gV_0, gV_1, gV_2, gV_3, gV_4, gV_5, gW_0, gW_1, gSi_0, gSi_1, gSi_2, gSi_3, gSp_0, gSp_1, gSp_2, gSp_3, gF_0, gF_1, gR_0, gR_1, gR_2, cInt_I, Option.map_some, Int.toNat_natCast, Int.ofNat_lt, Int.natCast_nonneg, decide_true, decide_false, goesO_some, goes_ret, goesO_ite, goesO_if, and_self, List.length_append, List.length_cons, List.length_nil, Nat.zero_add, Nat.add_zero, Bool.true_or, Bool.false_or, Bool.true_and, Bool.false_and, aInt_eq, aBool_eq, wayGo, e, e1, hw2] using this
theorem way_ok {n : Int} {l : List Int} (hm : mapOK n l = true) (d : Drv) {os : List Ord} (ho : os.length ≤ LIM) {stops : List Stp} (hs : stops.length ≤ SM) : Contract Try.prog 35 [.c (.rp false [.v (.int .i64 n), .ro false (rI l)] 0), .agg (cD d), .c (.ro false (rO os)), .c (.ro false (rS stops))] [] (aInt .i64 (wayGo n l os d.home stops)) [] := by
  refine way_c n l d os stops ?_
  have := way_loop hm d ho hs stops [] 0 d.home rfl (by omega) (by simp)
  simpa [way_te] using this
noncomputable def way_G (G : GT) : GT := gAdd 35 (fun a H => match a, H with | [.c (.rp false [.v (.int .i64 n), .ro false es] 0), .agg cs, .c (.ro false os), .c (.ro false ss)], [] => bnd (dM n es) fun l => bnd (uD cs) fun d => bnd (dO os) fun os => bnd (dS ss) fun ss => (match smS ss with | true => some (n, l, d, os, ss) | false => none) | _, _ => none) (fun p K => K (aInt .i64 (wayGo p.1 p.2.1 p.2.2.2.1 p.2.2.1.home p.2.2.2.2)) []) G
theorem way_g {G : GT} (h : GoodG Try.prog G) : GoodG Try.prog (way_G G) := by
  refine GoodG.add (fun a H p hp K out hk => ?_) h
  split at hp
  · obtain ⟨l, h1, hp⟩ := bnd_some hp
    obtain ⟨d, h2, hp⟩ := bnd_some hp
    obtain ⟨os, h3, hp⟩ := bnd_some hp
    obtain ⟨ss, h4, hp⟩ := bnd_some hp
    split at hp
    · rename_i hsm
      cases hp
      obtain ⟨rfl, h5⟩ := dM_inv h1
      cases uD_inv _ _ h2
      obtain ⟨rfl, h6⟩ := dO_inv h3
      obtain ⟨rfl, h7⟩ := dS_inv h4
      exact ⟨_, _, way_ok h5 _ h6 (of_decide_eq_true hsm), hk⟩
    · cases hp
  · cases hp

theorem drvD_some (A : List Drv) (id : Int) : (drvD A id).isSome = A.any fun x => x.id == id := by
  unfold drvD; induction A with
  | nil => rfl
  | cons a r ih => cases h : a.id == id <;> simp [List.find?_cons, h, ih]
def drvsGo (n : Int) : List Drv → List Drv → Bool
  | _, [] => true
  | A, d :: B => (drvE n d == 0) && (!(A.any fun x => x.id == d.id) && drvsGo n (A ++ [d]) B)
def togetherP (n : Int) (ds : List Drv) (os : List Ord) (p : List Rte) : Bool := decide (ds.length ≤ 8) && (knownO n os && (rightP p && drvsGo n [] ds))
theorem together_loop {n : Int} {l : List Int} (hm : mapOK n l = true) (ds : List Drv) (os : List Ord) (p : List Rte) (hl : ds.length ≤ LIM) : ∀ (B A : List Drv), ds = A ++ B → Goes C_together (aBool (drvsGo n A B)) [] (together_j0 n l ds os p A.length) := by
  intro B
  induction B with
  | nil => intro A h; rw [List.append_nil] at h; subst h; apply together_s0; simp [together_t0, drvsGo]
  | cons d B ih =>
    intro A h
    obtain ⟨hlt, hk, h2⟩ := at_split h
    have hw := wrap_nat (n := A.length) (by omega)
    have := ih (A ++ [d]) h2
    have htake : List.take A.length (rD ds) = rD A := by rw [h]; simp [rD]
    have hle : A.length ≤ ds.length := by omega
    have hu : uD [AC.v (Go.Value.int Go.IntKind.i64 d.id), AC.v (Go.Value.int Go.IntKind.i64 d.room), AC.v (Go.Value.int Go.IntKind.i64 d.home), AC.v (Go.Value.int Go.IntKind.i64 d.frm), AC.v (Go.Value.int Go.IntKind.i64 d.till), AC.v (Go.Value.bool d.ret)] = some d := rfl
    apply together_s0
    simp only [bnd_some', bnd_none', bnd_map', ite_true', ite_false', sel_true', sel_false', optK_some, optK_none, getE_rI, len_rI, szL_rI, getE_rO, len_rO, szL_rO, getE_rD, len_rD, szL_rD, getE_rS, len_rS, szL_rS, getE_rV, len_rV, szL_rV, getE_rR, len_rR, szL_rR, szCk_rI, szCk_rO, szCk_rD, szCk_rS, szCk_rV, ckR_rI, ckR_rO, ckR_rS, ckR_rV, take_rO, take_rS, gO_0, gO_1, gO_2, gO_3, gO_4, gO_5, gO_6, gO_7, gO_8, gO_9, gD_0, gD_1, gD_2, gD_3, gD_4, gD_5, gS_0, gS_1, gV_0, gV_1, gV_2, gV_3, gV_4, gV_5, gW_0, gW_1, gSi_0, gSi_1, gSi_2, gSi_3, gSp_0, gSp_1, gSp_2, gSp_3, gF_0, gF_1, gR_0, gR_1, gR_2, cInt_I, Option.map_some, Int.toNat_natCast, Int.ofNat_lt, Int.natCast_nonneg, decide_true, decide_false, and_self, List.length_append, List.length_cons, List.length_nil, Nat.zero_add, Nat.add_zero, Bool.true_or, Bool.false_or, Bool.true_and, Bool.false_and, aInt_eq, aBool_eq, together_t0, hlt, hk, hw, htake, hle, dD_rD (show A.length ≤ LIM by omega), hu, mapOK_nOK hm, drvD_some]
    cases h1 : A.any fun x => x.id == d.id
    · cases h2 : drvE n d == 0
      · have : (drvE n d != 0) = true := by simp [bne, h2]
        simp only [bnd_some', bnd_none', bnd_map', ite_true', ite_false', sel_true', sel_false', optK_some, optK_none, getE_rI, len_rI, szL_rI, getE_rO, len_rO, szL_rO, getE_rD, len_rD, szL_rD, getE_rS, len_rS, szL_rS, getE_rV, len_rV, szL_rV, getE_rR, len_rR, szL_rR, szCk_rI, szCk_rO, szCk_rD, szCk_rS, szCk_rV, ckR_rI, ckR_rO, ckR_rS, ckR_rV, take_rO, take_rS, gO_0, gO_1, gO_2, gO_3, gO_4, gO_5, gO_6, gO_7, gO_8, gO_9, gD_0, gD_1, gD_2, gD_3, gD_4, gD_5, gS_0, gS_1, gV_0, gV_1, gV_2, gV_3, gV_4, gV_5, gW_0, gW_1, gSi_0, gSi_1, gSi_2, gSi_3, gSp_0, gSp_1, gSp_2, gSp_3, gF_0, gF_1, gR_0, gR_1, gR_2, cInt_I, Option.map_some, Int.toNat_natCast, Int.ofNat_lt, Int.natCast_nonneg, decide_true, decide_false, goesO_some, goes_ret, goesO_ite, goesO_if, and_self, List.length_append, List.length_cons, List.length_nil, Nat.zero_add, Nat.add_zero, Bool.true_or, Bool.false_or, Bool.true_and, Bool.false_and, aInt_eq, aBool_eq, drvsGo, h1, h2, this]
      · have h3 : (drvE n d != 0) = false := by simp [bne, h2]
        simpa only [bnd_some', bnd_none', bnd_map', ite_true', ite_false', sel_true', sel_false', optK_some, optK_none, getE_rI, len_rI, szL_rI, getE_rO, len_rO, szL_rO, getE_rD, len_rD, szL_rD, getE_rS, len_rS, szL_rS, getE_rV, len_rV, szL_rV, getE_rR, len_rR, szL_rR, szCk_rI, szCk_rO, szCk_rD, szCk_rS, szCk_rV, ckR_rI, ckR_rO, ckR_rS, ckR_rV, take_rO, take_rS, gO_0, gO_1, gO_2, gO_3, gO_4, gO_5, gO_6, gO_7, gO_8, gO_9, gD_0, gD_1, gD_2, gD_3, gD_4, gD_5, gS_0, gS_1, gV_0, gV_1, gV_2, gV_3, gV_4, gV_5, gW_0, gW_1, gSi_0, gSi_1, gSi_2, gSi_3, gSp_0, gSp_1, gSp_2, gSp_3, gF_0, gF_1, gR_0, gR_1, gR_2, cInt_I, Option.map_some, Int.toNat_natCast, Int.ofNat_lt, Int.natCast_nonneg, decide_true, decide_false, goesO_some, goes_ret, goesO_ite, goesO_if, and_self, List.length_append, List.length_cons, List.length_nil, Nat.zero_add, Nat.add_zero, Bool.true_or, Bool.false_or, Bool.true_and, Bool.false_and, aInt_eq, aBool_eq, drvsGo, h1, h2, h3, Bool.not_false] using this
    · simp only [bnd_some', bnd_none', bnd_map', ite_true', ite_false', sel_true', sel_false', optK_some, optK_none, getE_rI, len_rI, szL_rI, getE_rO, len_rO, szL_rO, getE_rD, len_rD, szL_rD, getE_rS, len_rS, szL_rS, getE_rV, len_rV, szL_rV, getE_rR, len_rR, szL_rR, szCk_rI, szCk_rO, szCk_rD, szCk_rS, szCk_rV, ckR_rI, ckR_rO, ckR_rS, ckR_rV, take_rO, take_rS, gO_0, gO_1, gO_2, gO_3, gO_4, gO_5, gO_6, gO_7, gO_8, gO_9, gD_0, gD_1, gD_2, gD_3, gD_4, gD_5, gS_0, gS_1, gV_0, gV_1, gV_2, gV_3, gV_4, gV_5, gW_0, gW_1, gSi_0, gSi_1, gSi_2, gSi_3, gSp_0, gSp_1, gSp_2, gSp_3, gF_0, gF_1, gR_0, gR_1, gR_2, cInt_I, Option.map_some, Int.toNat_natCast, Int.ofNat_lt, Int.natCast_nonneg, decide_true, decide_false, goesO_some, goes_ret, goesO_ite, goesO_if, and_self, List.length_append, List.length_cons, List.length_nil, Nat.zero_add, Nat.add_zero, Bool.true_or, Bool.false_or, Bool.true_and, Bool.false_and, aInt_eq, aBool_eq, drvsGo, h1, Bool.not_true, Bool.and_false]
theorem together_ok {n : Int} {l : List Int} (hm : mapOK n l = true) {ds : List Drv} (hd : ds.length ≤ LIM) {os : List Ord} (ho : os.length ≤ LIM) {p : List Rte} (hp : PlanOK p) : Contract Try.prog 31 [.c (.rp false [.v (.int .i64 n), .ro false (rI l)] 0), .c (.ro false (rD ds)), .c (.ro false (rO os)), .c (.ro false (rR p))] [] (aBool (togetherP n ds os p)) [] := by
  refine together_c n l ds os p ?_
  have := together_loop hm ds os p hd ds [] rfl
  simp only [together_te, bnd_some', bnd_none', bnd_map', ite_true', ite_false', sel_true', sel_false', optK_some, optK_none, getE_rI, len_rI, szL_rI, getE_rO, len_rO, szL_rO, getE_rD, len_rD, szL_rD, getE_rS, len_rS, szL_rS, getE_rV, len_rV, szL_rV, getE_rR, len_rR, szL_rR, szCk_rI, szCk_rO, szCk_rD, szCk_rS, szCk_rV, ckR_rI, ckR_rO, ckR_rS, ckR_rV, take_rO, take_rS, gO_0, gO_1, gO_2, gO_3, gO_4, gO_5, gO_6, gO_7, gO_8, gO_9, gD_0, gD_1, gD_2, gD_3, gD_4, gD_5, gS_0, gS_1, gV_0, gV_1, gV_2, gV_3, gV_4, gV_5, gW_0, gW_1, gSi_0, gSi_1, gSi_2, gSi_3, gSp_0, gSp_1, gSp_2, gSp_3, gF_0, gF_1, gR_0, gR_1, gR_2, cInt_I, Option.map_some, Int.toNat_natCast, Int.ofNat_lt, Int.natCast_nonneg, decide_true, decide_false, and_self, List.length_append, List.length_cons, List.length_nil, Nat.zero_add, Nat.add_zero, Bool.true_or, Bool.false_or, Bool.true_and, Bool.false_and, aInt_eq, aBool_eq, dO_rO ho, mapOK_nOK hm, dR_rR hp]
  refine goesO_dec ⟨fun h => ?_, fun h => ?_⟩
  · have : ¬ ds.length ≤ 8 := by omega
    simp [togetherP, this]
  · have h' : ds.length ≤ 8 := by omega
    cases h1 : knownO n os
    · simp [togetherP, h1]
    · cases h2 : rightP p
      · simp [togetherP, h1, h2]
      · simpa [togetherP, h', h1, h2] using this

theorem well_in {n : Int} {l : List Int} (ds : List Drv) (os : List Ord) (p : List Rte) (o : Drv) (A B : List Drv) (b : Bool) (hos : ds = A ++ o :: B) (hA : A.length < LIM) (k : Goes C_well (aBool b) [] (well_j0 n l ds os p ((A.length + 1 : Nat) : Int))) :
    ∀ (B2 A2 : List Drv), A = A2 ++ B2 → Goes C_well (aBool (!(B2.any fun x => x.id == o.id) && b)) [] (well_j1 n l ds os p A.length A2.length) := by
  intro B2
  have hw := wrap_nat (n := A.length) (by omega)
  obtain ⟨hlt, hk, _⟩ := at_split hos
  induction B2 with
  | nil => intro A2 h; rw [List.append_nil] at h; subst h; apply well_s1; simpa [well_t1, hw] using k
  | cons x B2 ih =>
    intro A2 h
    obtain ⟨hlt2, hk2, h2⟩ := at_split h
    have hk3 : ds[A2.length]? = some x := by rw [hos, List.getElem?_append_left hlt2]; exact hk2
    have hw2 := wrap_nat (n := A2.length) (by omega)
    have := ih (A2 ++ [x]) h2
    apply well_s1
    simp only [bnd_some', bnd_none', bnd_map', ite_true', ite_false', sel_true', sel_false', optK_some, optK_none, getE_rI, len_rI, szL_rI, getE_rO, len_rO, szL_rO, getE_rD, len_rD, szL_rD, getE_rS, len_rS, szL_rS, getE_rV, len_rV, szL_rV, getE_rR, len_rR, szL_rR, szCk_rI, szCk_rO, szCk_rD, szCk_rS, szCk_rV, ckR_rI, ckR_rO, ckR_rS, ckR_rV, take_rO, take_rS, gO_0, gO_1, gO_2, gO_3, gO_4, gO_5, gO_6, gO_7, gO_8, gO_9, gD_0, gD_1, gD_2, gD_3, gD_4, gD_5, gS_0, gS_1, gV_0, gV_1, gV_2, gV_3, gV_4, gV_5, gW_0, gW_1, gSi_0, gSi_1, gSi_2, gSi_3, gSp_0, gSp_1, gSp_2, gSp_3, gF_0, gF_1, gR_0, gR_1, gR_2, cInt_I, Option.map_some, Int.toNat_natCast, Int.ofNat_lt, Int.natCast_nonneg, decide_true, decide_false, and_self, List.length_append, List.length_cons, List.length_nil, Nat.zero_add, Nat.add_zero, Bool.true_or, Bool.false_or, Bool.true_and, Bool.false_and, aInt_eq, aBool_eq, well_t1, hlt, hk, hk3, hw2, hlt2]
    cases hid : x.id == o.id
    · simpa [hid] using this
    · simp [hid]
theorem well_loop {n : Int} {l : List Int} (ds : List Drv) (os : List Ord) (p : List Rte) (hl : ds.length ≤ LIM) : ∀ (B A : List Drv), ds = A ++ B → Goes C_well (aBool (drvsGo n A B)) [] (well_j0 n l ds os p A.length) := by
  intro B
  induction B with
  | nil => intro A h; rw [List.append_nil] at h; subst h; apply well_s0; simp [well_t0, drvsGo]
  | cons d B ih =>
    intro A h
    obtain ⟨hlt, hk, h2⟩ := at_split h
    have := ih (A ++ [d]) h2
    have hin := well_in ds os p d A B (drvsGo n (A ++ [d]) B) h (by omega) (by simpa using this) A [] rfl
    apply well_s0
    simp only [bnd_some', bnd_none', bnd_map', ite_true', ite_false', sel_true', sel_false', optK_some, optK_none, getE_rI, len_rI, szL_rI, getE_rO, len_rO, szL_rO, getE_rD, len_rD, szL_rD, getE_rS, len_rS, szL_rS, getE_rV, len_rV, szL_rV, getE_rR, len_rR, szL_rR, szCk_rI, szCk_rO, szCk_rD, szCk_rS, szCk_rV, ckR_rI, ckR_rO, ckR_rS, ckR_rV, take_rO, take_rS, gO_0, gO_1, gO_2, gO_3, gO_4, gO_5, gO_6, gO_7, gO_8, gO_9, gD_0, gD_1, gD_2, gD_3, gD_4, gD_5, gS_0, gS_1, gV_0, gV_1, gV_2, gV_3, gV_4, gV_5, gW_0, gW_1, gSi_0, gSi_1, gSi_2, gSi_3, gSp_0, gSp_1, gSp_2, gSp_3, gF_0, gF_1, gR_0, gR_1, gR_2, cInt_I, Option.map_some, Int.toNat_natCast, Int.ofNat_lt, Int.natCast_nonneg, decide_true, decide_false, and_self, List.length_append, List.length_cons, List.length_nil, Nat.zero_add, Nat.add_zero, Bool.true_or, Bool.false_or, Bool.true_and, Bool.false_and, aInt_eq, aBool_eq, well_t0, hlt, hk]
    cases h2 : drvE n d == 0
    · have h3 : (drvE n d != 0) = true := by simp [bne, h2]
      simp only [bnd_some', bnd_none', bnd_map', ite_true', ite_false', sel_true', sel_false', optK_some, optK_none, getE_rI, len_rI, szL_rI, getE_rO, len_rO, szL_rO, getE_rD, len_rD, szL_rD, getE_rS, len_rS, szL_rS, getE_rV, len_rV, szL_rV, getE_rR, len_rR, szL_rR, szCk_rI, szCk_rO, szCk_rD, szCk_rS, szCk_rV, ckR_rI, ckR_rO, ckR_rS, ckR_rV, take_rO, take_rS, gO_0, gO_1, gO_2, gO_3, gO_4, gO_5, gO_6, gO_7, gO_8, gO_9, gD_0, gD_1, gD_2, gD_3, gD_4, gD_5, gS_0, gS_1, gV_0, gV_1, gV_2, gV_3, gV_4, gV_5, gW_0, gW_1, gSi_0, gSi_1, gSi_2, gSi_3, gSp_0, gSp_1, gSp_2, gSp_3, gF_0, gF_1, gR_0, gR_1, gR_2, cInt_I, Option.map_some, Int.toNat_natCast, Int.ofNat_lt, Int.natCast_nonneg, decide_true, decide_false, goesO_some, goes_ret, goesO_ite, goesO_if, and_self, List.length_append, List.length_cons, List.length_nil, Nat.zero_add, Nat.add_zero, Bool.true_or, Bool.false_or, Bool.true_and, Bool.false_and, aInt_eq, aBool_eq, drvsGo, h2, h3]
    · have h3 : (drvE n d != 0) = false := by simp [bne, h2]
      simpa only [bnd_some', bnd_none', bnd_map', ite_true', ite_false', sel_true', sel_false', optK_some, optK_none, getE_rI, len_rI, szL_rI, getE_rO, len_rO, szL_rO, getE_rD, len_rD, szL_rD, getE_rS, len_rS, szL_rS, getE_rV, len_rV, szL_rV, getE_rR, len_rR, szL_rR, szCk_rI, szCk_rO, szCk_rD, szCk_rS, szCk_rV, ckR_rI, ckR_rO, ckR_rS, ckR_rV, take_rO, take_rS, gO_0, gO_1, gO_2, gO_3, gO_4, gO_5, gO_6, gO_7, gO_8, gO_9, gD_0, gD_1, gD_2, gD_3, gD_4, gD_5, gS_0, gS_1, gV_0, gV_1, gV_2, gV_3, gV_4, gV_5, gW_0, gW_1, gSi_0, gSi_1, gSi_2, gSi_3, gSp_0, gSp_1, gSp_2, gSp_3, gF_0, gF_1, gR_0, gR_1, gR_2, cInt_I, Option.map_some, Int.toNat_natCast, Int.ofNat_lt, Int.natCast_nonneg, decide_true, decide_false, goesO_some, goes_ret, goesO_ite, goesO_if, and_self, List.length_append, List.length_cons, List.length_nil, Nat.zero_add, Nat.add_zero, Bool.true_or, Bool.false_or, Bool.true_and, Bool.false_and, aInt_eq, aBool_eq, drvsGo, h2, h3, Int.natCast_zero, Int.cast_ofNat_Int] using hin
theorem well_ok (n : Int) (l : List Int) {ds : List Drv} (hd : ds.length ≤ LIM) {os : List Ord} (ho : os.length ≤ LIM) {p : List Rte} (hp : PlanOK p) : Contract Try.prog 44 [.c (.rp false [.v (.int .i64 n), .ro false (rI l)] 0), .c (.ro false (rD ds)), .c (.ro false (rO os)), .c (.ro false (rR p))] [] (aBool (togetherP n ds os p)) [] := by
  refine well_c n l ds os p ?_
  have := well_loop (n := n) (l := l) ds os p hd ds [] rfl
  simp only [well_te, bnd_some', bnd_none', bnd_map', ite_true', ite_false', sel_true', sel_false', optK_some, optK_none, getE_rI, len_rI, szL_rI, getE_rO, len_rO, szL_rO, getE_rD, len_rD, szL_rD, getE_rS, len_rS, szL_rS, getE_rV, len_rV, szL_rV, getE_rR, len_rR, szL_rR, szCk_rI, szCk_rO, szCk_rD, szCk_rS, szCk_rV, ckR_rI, ckR_rO, ckR_rS, ckR_rV, take_rO, take_rS, gO_0, gO_1, gO_2, gO_3, gO_4, gO_5, gO_6, gO_7, gO_8, gO_9, gD_0, gD_1, gD_2, gD_3, gD_4, gD_5, gS_0, gS_1, gV_0, gV_1, gV_2, gV_3, gV_4, gV_5, gW_0, gW_1, gSi_0, gSi_1, gSi_2, gSi_3, gSp_0, gSp_1, gSp_2, gSp_3, gF_0, gF_1, gR_0, gR_1, gR_2, cInt_I, Option.map_some, Int.toNat_natCast, Int.ofNat_lt, Int.natCast_nonneg, decide_true, decide_false, and_self, List.length_append, List.length_cons, List.length_nil, Nat.zero_add, Nat.add_zero, Bool.true_or, Bool.false_or, Bool.true_and, Bool.false_and, aInt_eq, aBool_eq, dO_rO ho, dR_rR hp]
  refine goesO_dec ⟨fun h => ?_, fun h => ?_⟩
  · have : ¬ ds.length ≤ 8 := by omega
    simp [togetherP, this]
  · have h' : ds.length ≤ 8 := by omega
    cases h1 : knownO n os
    · simp [togetherP, h1]
    · cases h2 : rightP p
      · simp [togetherP, h1, h2]
      · simpa [togetherP, h', h1, h2] using this
end Go.Proofs.Ytdognggfplnkiaa
