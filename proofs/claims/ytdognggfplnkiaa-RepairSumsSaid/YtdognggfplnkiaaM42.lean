/-
  Contracts: is a plan right (plan.Right and drayref9.Right); a map made (geo.New and drayref4.New).
-/
import Derived.Test.YtdognggfplnkiaaM41
namespace Go.Proofs.Ytdognggfplnkiaa
open Go.AM
set_option linter.unusedVariables false
set_option linter.unusedSimpArgs false

theorem eqS_comm (a b : Stp) : eqS a b = eqS b a := by cases a; cases b; simp [eqS, Bool.beq_comm]
def stOK (s : Stp) : Bool := decide (1 ≤ s.ord ∧ s.ord ≤ 1000000)
def stGo : List Stp → List Stp → Bool
  | _, [] => true
  | seen, s :: r => stOK s && (!(seen.any (eqS s)) && stGo (seen ++ [s]) r)
def rtOK (last : Int) (r : Rte) : Bool := decide (last < r.drv ∧ r.drv ≤ 1000000 ∧ r.stops.length ≤ 80 ∧ 0 ≤ r.served ∧ r.served ≤ r.stops.length)
def rightGo : Int → List Stp → List Rte → Bool
  | _, _, [] => true
  | last, seen, r :: p => rtOK last r && (stGo seen r.stops && rightGo r.drv (seen ++ r.stops) p)
def rightP (p : List Rte) : Bool := decide (p.length ≤ 8) && rightGo 0 [] p
abbrev mS (l : List Stp) : List (List AC × List AC × Nat) := mK cS (fun _ => cI 1) l 0
theorem pright_in (p : List Rte) (last : Int) (L : List Stp) (i : Nat) (b : Bool) (hi : i < LIM) (hL : L.length ≤ LIM) : ∀ (B2 A2 seen : List Stp), L = A2 ++ B2 → Goes C_pright (aBool b) [] (pright_j0 p last ((i + 1 : Nat) : Int) (mS (seen ++ B2)) (seen ++ B2).length) →
    Goes C_pright (aBool (stGo seen B2 && b)) [] (pright_j1 p last (rS L) L.length A2.length (mS seen) seen.length i) := by
  intro B2
  have hw := wrap_nat (n := i) (by omega)
  induction B2 with
  | nil => intro A2 seen h k; rw [List.append_nil] at h k; subst h; apply pright_s1; simpa [pright_t1, hw, stGo] using k
  | cons x B2 ih =>
    intro A2 seen h k
    obtain ⟨hlt, hk, h2⟩ := at_split h
    have hw2 := wrap_nat (n := A2.length) (by omega)
    have hi2 := ih (A2 ++ [x]) (seen ++ [x]) h2 (by simpa using k)
    apply pright_s1
    simp only [bnd_some', bnd_none', bnd_map', ite_true', ite_false', sel_true', sel_false', optK_some, optK_none, getE_rI, len_rI, szL_rI, getE_rO, len_rO, szL_rO, getE_rD, len_rD, szL_rD, getE_rS, len_rS, szL_rS, getE_rV, len_rV, szL_rV, getE_rR, len_rR, szL_rR, szCk_rI, szCk_rO, szCk_rD, szCk_rS, szCk_rV, ckR_rI, ckR_rO, ckR_rS, ckR_rV, take_rO, take_rS, gO_0, gO_1, gO_2, gO_3, gO_4, gO_5, gO_6, gO_7, gO_8, gO_9, gD_0, gD_1, gD_2, gD_3, gD_4, gD_5, gS_0, gS_1, gV_0, gV_1, gV_2, gV_3, gV_4, gV_5, gW_0, gW_1, gSi_0, gSi_1, gSi_2, gSi_3, gSp_0, gSp_1, gSp_2, gSp_3, gF_0, gF_1, gR_0, gR_1, gR_2, cInt_I, Option.map_some, Int.toNat_natCast, Int.ofNat_lt, Int.natCast_nonneg, decide_true, decide_false, and_self, List.length_append, List.length_cons, List.length_nil, Nat.zero_add, Nat.add_zero, Bool.true_or, Bool.false_or, Bool.true_and, Bool.false_and, aInt_eq, aBool_eq, pright_t1, hlt, hk, hw2]
    refine goesO_dec ⟨fun h1 => ?_, fun h1 => ?_⟩
    · have hf : stOK x = false := decide_eq_false (by omega)
      simp [stGo, hf]
    refine goesO_dec ⟨fun h3 => ?_, fun h3 => ?_⟩
    · have hf : stOK x = false := decide_eq_false (by omega)
      simp [stGo, hf]
    have hf : stOK x = true := decide_eq_true (by omega)
    have hkey : [AC.v (Go.Value.int Go.IntKind.i64 x.ord), AC.v (Go.Value.bool x.drop)] = cS x := rfl
    cases ha : seen.any (eqS x)
    · have e1 := mlook_out cS (fun _ => cI 1) x [AC.v (Go.Value.int Go.IntKind.i64 (Int.ofNat 0))] (eqS x) (fun a => eqCells_S x a) ha
      have e2 := ment_new cS (fun _ => cI 1) x [AC.v (Go.Value.int Go.IntKind.i64 (Int.ofNat 0))] (eqS x) (fun a => eqCells_S x a) ha
      have e3 := mput_new cS (fun _ => cI 1) x [AC.v (Go.Value.int Go.IntKind.i64 (Int.ofNat 0))] seen
      have e4 : cInt .i64 [AC.v (Go.Value.int Go.IntKind.i64 (Int.ofNat 0))] 0 = some 0 := rfl
      have e5 : [AC.v (Go.Value.int Go.IntKind.i64 (Go.IntKind.wrap .i64 (0 + 1)))] = cI 1 := rfl
      simp only [hkey, e1, e2, bnd_some', e4, e5, e3]
      simpa [stGo, hf, ha] using hi2
    · obtain ⟨a, e1⟩ := mlook_in cS (fun _ => cI 1) x [AC.v (Go.Value.int Go.IntKind.i64 (Int.ofNat 0))] (eqS x) (fun a => eqCells_S x a) ha
      simp only [hkey, e1, bnd_some', cInt_I]
      simp [stGo, hf, ha, cI]
theorem pright_loop (p : List Rte) (hl : PlanOK p) : ∀ (B A : List Rte) (last : Int) (seen : List Stp), p = A ++ B → Goes C_pright (aBool (rightGo last seen B)) [] (pright_j0 p last A.length (mS seen) seen.length) := by
  intro B
  induction B with
  | nil => intro A last seen h; rw [List.append_nil] at h; subst h; apply pright_s0; simp [pright_t0, rightGo]
  | cons r B ih =>
    intro A last seen h
    obtain ⟨hlt, hk, h2⟩ := at_split h
    have hr : r.stops.length ≤ LIM := hl.2 r (by rw [h]; simp)
    have hp := hl.1
    have := ih (A ++ [r]) r.drv (seen ++ r.stops) h2
    have hin := pright_in p r.drv r.stops A.length _ (by omega) hr r.stops [] seen rfl (by simpa using this)
    apply pright_s0
    simp only [bnd_some', bnd_none', bnd_map', ite_true', ite_false', sel_true', sel_false', optK_some, optK_none, getE_rI, len_rI, szL_rI, getE_rO, len_rO, szL_rO, getE_rD, len_rD, szL_rD, getE_rS, len_rS, szL_rS, getE_rV, len_rV, szL_rV, getE_rR, len_rR, szL_rR, szCk_rI, szCk_rO, szCk_rD, szCk_rS, szCk_rV, ckR_rI, ckR_rO, ckR_rS, ckR_rV, take_rO, take_rS, gO_0, gO_1, gO_2, gO_3, gO_4, gO_5, gO_6, gO_7, gO_8, gO_9, gD_0, gD_1, gD_2, gD_3, gD_4, gD_5, gS_0, gS_1, gV_0, gV_1, gV_2, gV_3, gV_4, gV_5, gW_0, gW_1, gSi_0, gSi_1, gSi_2, gSi_3, gSp_0, gSp_1, gSp_2, gSp_3, gF_0, gF_1, gR_0, gR_1, gR_2, cInt_I, Option.map_some, Int.toNat_natCast, Int.ofNat_lt, Int.natCast_nonneg, decide_true, decide_false, and_self, List.length_append, List.length_cons, List.length_nil, Nat.zero_add, Nat.add_zero, Bool.true_or, Bool.false_or, Bool.true_and, Bool.false_and, aInt_eq, aBool_eq, pright_t0, hlt, hk]
    repeat' (first | refine goesO_dec ⟨fun _ => ?_, fun _ => ?_⟩ | refine goesO_ndec ⟨fun _ => ?_, fun _ => ?_⟩)
    all_goals first
      | (have hf : rtOK last r = false := decide_eq_false (by omega)
         simp only [goesO_some, goes_ret, rightGo, hf, Bool.false_and, aBool_eq, and_self])
      | (have hf : rtOK last r = true := decide_eq_true (by omega)
         simpa [goesO_some, rightGo, hf] using hin)
theorem pright_ok {p : List Rte} (hl : PlanOK p) : Contract Try.prog 36 [.c (.ro false (rR p))] [] (aBool (rightP p)) [] := by
  refine pright_c p ?_
  have := pright_loop p hl p [] 0 [] rfl
  simp only [pright_te, len_rR]
  refine goesO_dec ⟨fun h => ?_, fun h => ?_⟩
  · have : ¬ p.length ≤ 8 := by omega
    simp [rightP, this]
  · have h' : p.length ≤ 8 := by omega
    simpa [rightP, h', mK] using this
noncomputable def pright_G (G : GT) : GT := gAdd 36 (fun a H => match a, H with | [.c (.ro false l)], [] => dR l | _, _ => none) (fun p K => K (aBool (rightP p)) []) G
theorem pright_g {G : GT} (h : GoodG Try.prog G) : GoodG Try.prog (pright_G G) := by
  refine GoodG.add (fun a H p hp K out hk => ?_) h
  split at hp
  · obtain ⟨rfl, h3⟩ := dR_inv hp
    exact ⟨_, _, pright_ok h3, hk⟩
  · cases hp

theorem r9right_in2 (p : List Rte) (L : List Stp) (dr sv : Int) (s : Stp) (k i : Nat) (b : Bool) (seen : List Stp) (hs : seen.length ≤ SM) (hk0 : k ≤ SM) (g : Goes C_r9right (aBool b) [] (r9right_j1 p dr sv (rS L) ((k + 1 : Nat) : Int) (rS (seen ++ [s])) i)) :
    ∀ (B2 A2 : List Stp), seen = A2 ++ B2 → Goes C_r9right (aBool (!(B2.any (eqS s)) && b)) [] (r9right_j2 p dr sv (rS L) s.ord s.drop k (rS seen) i A2.length) := by
  intro B2
  have hlim : LIM = 9223372036854775807 ∧ SM = 1048576 := ⟨rfl, rfl⟩
  have hw := wrap_nat (n := k) (by omega)
  induction B2 with
  | nil =>
    intro A2 h; rw [List.append_nil] at h; subst h
    apply r9right_s2
    have hf : fitsB (seen.length + 1) 16 = true := fits_of (by have : SM = 1048576 := rfl; omega) (by omega)
    have : rS seen ++ [[AC.v (Go.Value.int Go.IntKind.i64 s.ord), AC.v (Go.Value.bool s.drop)]] = rS (seen ++ [s]) := rS_snoc seen s
    simpa [r9right_t2, hw, hf, this] using g
  | cons x B2 ih =>
    intro A2 h
    obtain ⟨hlt, hk, h2⟩ := at_split h
    have hw2 := wrap_nat (n := A2.length) (by omega)
    have := ih (A2 ++ [x]) h2
    apply r9right_s2
    cases ha : eqS s x
    · have ha' : (x.ord == s.ord && x.drop == s.drop) = false := by rw [eqS_comm] at ha; exact ha
      simpa only [bnd_some', bnd_none', bnd_map', ite_true', ite_false', sel_true', sel_false', optK_some, optK_none, getE_rI, len_rI, szL_rI, getE_rO, len_rO, szL_rO, getE_rD, len_rD, szL_rD, getE_rS, len_rS, szL_rS, getE_rV, len_rV, szL_rV, getE_rR, len_rR, szL_rR, szCk_rI, szCk_rO, szCk_rD, szCk_rS, szCk_rV, ckR_rI, ckR_rO, ckR_rS, ckR_rV, take_rO, take_rS, gO_0, gO_1, gO_2, gO_3, gO_4, gO_5, gO_6, gO_7, gO_8, gO_9, gD_0, gD_1, gD_2, gD_3, gD_4, gD_5, gS_0, gS_1, gV_0, gV_1, gV_2, gV_3, gV_4, gV_5, gW_0, gW_1, gSi_0, gSi_1, gSi_2, gSi_3, gSp_0, gSp_1, gSp_2, gSp_3, gF_0, gF_1, gR_0, gR_1, gR_2, cInt_I, Option.map_some, Int.toNat_natCast, Int.ofNat_lt, Int.natCast_nonneg, decide_true, decide_false, goesO_some, goes_ret, goesO_ite, goesO_if, and_self, List.length_append, List.length_cons, List.length_nil, Nat.zero_add, Nat.add_zero, Bool.true_or, Bool.false_or, Bool.true_and, Bool.false_and, aInt_eq, aBool_eq, r9right_t2, hlt, hk, hw2, ha', ha, List.any_cons] using this
    · have ha' : (x.ord == s.ord && x.drop == s.drop) = true := by rw [eqS_comm] at ha; exact ha
      simp only [bnd_some', bnd_none', bnd_map', ite_true', ite_false', sel_true', sel_false', optK_some, optK_none, getE_rI, len_rI, szL_rI, getE_rO, len_rO, szL_rO, getE_rD, len_rD, szL_rD, getE_rS, len_rS, szL_rS, getE_rV, len_rV, szL_rV, getE_rR, len_rR, szL_rR, szCk_rI, szCk_rO, szCk_rD, szCk_rS, szCk_rV, ckR_rI, ckR_rO, ckR_rS, ckR_rV, take_rO, take_rS, gO_0, gO_1, gO_2, gO_3, gO_4, gO_5, gO_6, gO_7, gO_8, gO_9, gD_0, gD_1, gD_2, gD_3, gD_4, gD_5, gS_0, gS_1, gV_0, gV_1, gV_2, gV_3, gV_4, gV_5, gW_0, gW_1, gSi_0, gSi_1, gSi_2, gSi_3, gSp_0, gSp_1, gSp_2, gSp_3, gF_0, gF_1, gR_0, gR_1, gR_2, cInt_I, Option.map_some, Int.toNat_natCast, Int.ofNat_lt, Int.natCast_nonneg, decide_true, decide_false, goesO_some, goes_ret, goesO_ite, goesO_if, and_self, List.length_append, List.length_cons, List.length_nil, Nat.zero_add, Nat.add_zero, Bool.true_or, Bool.false_or, Bool.true_and, Bool.false_and, aInt_eq, aBool_eq, r9right_t2, hlt, hk, hw2, ha', ha, List.any_cons, Bool.not_true]
theorem r9right_in (p : List Rte) (L : List Stp) (dr sv : Int) (i : Nat) (b : Bool) (hi : i ≤ SM) (hL : L.length ≤ 80) : ∀ (B2 A2 seen : List Stp), L = A2 ++ B2 → seen.length + B2.length ≤ SM → Goes C_r9right (aBool b) [] (r9right_j0 p ((i + 1 : Nat) : Int) (rS (seen ++ B2))) →
    Goes C_r9right (aBool (stGo seen B2 && b)) [] (r9right_j1 p dr sv (rS L) A2.length (rS seen) i) := by
  intro B2
  have hlim : LIM = 9223372036854775807 ∧ SM = 1048576 := ⟨rfl, rfl⟩
  have hw := wrap_nat (n := i) (by omega)
  induction B2 with
  | nil => intro A2 seen h hs k; rw [List.append_nil] at h k; subst h; apply r9right_s1; simpa [r9right_t1, hw, stGo] using k
  | cons x B2 ih =>
    intro A2 seen h hs k
    rw [List.length_cons] at hs
    obtain ⟨hlt, hk, h2⟩ := at_split h
    have hi2 := ih (A2 ++ [x]) (seen ++ [x]) h2 (by simp; omega) (by simpa using k)
    have hLIM : LIM = 9223372036854775807 ∧ SM = 1048576 := ⟨rfl, rfl⟩
    have hin := r9right_in2 p L dr sv x A2.length i (stGo (seen ++ [x]) B2 && b) seen (by omega) (by omega) (by simpa using hi2) seen [] rfl
    apply r9right_s1
    simp only [bnd_some', bnd_none', bnd_map', ite_true', ite_false', sel_true', sel_false', optK_some, optK_none, getE_rI, len_rI, szL_rI, getE_rO, len_rO, szL_rO, getE_rD, len_rD, szL_rD, getE_rS, len_rS, szL_rS, getE_rV, len_rV, szL_rV, getE_rR, len_rR, szL_rR, szCk_rI, szCk_rO, szCk_rD, szCk_rS, szCk_rV, ckR_rI, ckR_rO, ckR_rS, ckR_rV, take_rO, take_rS, gO_0, gO_1, gO_2, gO_3, gO_4, gO_5, gO_6, gO_7, gO_8, gO_9, gD_0, gD_1, gD_2, gD_3, gD_4, gD_5, gS_0, gS_1, gV_0, gV_1, gV_2, gV_3, gV_4, gV_5, gW_0, gW_1, gSi_0, gSi_1, gSi_2, gSi_3, gSp_0, gSp_1, gSp_2, gSp_3, gF_0, gF_1, gR_0, gR_1, gR_2, cInt_I, Option.map_some, Int.toNat_natCast, Int.ofNat_lt, Int.natCast_nonneg, decide_true, decide_false, and_self, List.length_append, List.length_cons, List.length_nil, Nat.zero_add, Nat.add_zero, Bool.true_or, Bool.false_or, Bool.true_and, Bool.false_and, aInt_eq, aBool_eq, r9right_t1, hlt, hk]
    refine goesO_dec ⟨fun h1 => ?_, fun h1 => ?_⟩
    · have hf : stOK x = false := decide_eq_false (by omega)
      simp [stGo, hf]
    refine goesO_dec ⟨fun h3 => ?_, fun h3 => ?_⟩
    · have hf : stOK x = false := decide_eq_false (by omega)
      simp [stGo, hf]
    have hf : stOK x = true := decide_eq_true (by omega)
    simpa only [bnd_some', bnd_none', bnd_map', ite_true', ite_false', sel_true', sel_false', optK_some, optK_none, getE_rI, len_rI, szL_rI, getE_rO, len_rO, szL_rO, getE_rD, len_rD, szL_rD, getE_rS, len_rS, szL_rS, getE_rV, len_rV, szL_rV, getE_rR, len_rR, szL_rR, szCk_rI, szCk_rO, szCk_rD, szCk_rS, szCk_rV, ckR_rI, ckR_rO, ckR_rS, ckR_rV, take_rO, take_rS, gO_0, gO_1, gO_2, gO_3, gO_4, gO_5, gO_6, gO_7, gO_8, gO_9, gD_0, gD_1, gD_2, gD_3, gD_4, gD_5, gS_0, gS_1, gV_0, gV_1, gV_2, gV_3, gV_4, gV_5, gW_0, gW_1, gSi_0, gSi_1, gSi_2, gSi_3, gSp_0, gSp_1, gSp_2, gSp_3, gF_0, gF_1, gR_0, gR_1, gR_2, cInt_I, Option.map_some, Int.toNat_natCast, Int.ofNat_lt, Int.natCast_nonneg, decide_true, decide_false, goesO_some, goes_ret, goesO_ite, goesO_if, and_self, List.length_append, List.length_cons, List.length_nil, Nat.zero_add, Nat.add_zero, Bool.true_or, Bool.false_or, Bool.true_and, Bool.false_and, aInt_eq, aBool_eq, stGo, hf, Bool.true_and, Bool.and_assoc, Int.natCast_zero, Int.cast_ofNat_Int] using hin
theorem r9right_loop (p : List Rte) (hl : PlanOK p) (h8 : p.length ≤ 8) : ∀ (B A : List Rte) (last : Int) (seen : List Stp), p = A ++ B → seen.length ≤ 80 * A.length → ((A = [] ∧ last = 0) ∨ ∃ A' q, A = A' ++ [q] ∧ q.drv = last ∧ 1 ≤ last) → Goes C_r9right (aBool (rightGo last seen B)) [] (r9right_j0 p A.length (rS seen)) := by
  intro B
  induction B with
  | nil => intro A last seen h _ _; rw [List.append_nil] at h; subst h; apply r9right_s0; simp [r9right_t0, rightGo]
  | cons r B ih =>
    intro A last seen h hs ha
    obtain ⟨hlt, hk, h2⟩ := at_split h
    have hr : r.stops.length ≤ LIM := hl.2 r (by rw [h]; simp)
    have hin : rtOK last r = true → 1 ≤ r.drv → Goes C_r9right (aBool (stGo seen r.stops && rightGo r.drv (seen ++ r.stops) B)) [] (r9right_j1 p r.drv r.served (rS r.stops) 0 (rS seen) A.length) := by
      intro hf h1
      have hc := of_decide_eq_true hf
      have hLIM : LIM = 9223372036854775807 ∧ SM = 1048576 := ⟨rfl, rfl⟩
      have := ih (A ++ [r]) r.drv (seen ++ r.stops) h2 (by simp; omega) (.inr ⟨A, r, rfl, rfl, h1⟩)
      exact r9right_in p r.stops r.drv r.served A.length _ (by omega) (by omega) r.stops [] seen rfl (by omega) (by simpa using this)
    apply r9right_s0
    rcases ha with ⟨rfl, rfl⟩ | ⟨A', q, rfl, rfl, hq⟩
    · simp only [List.length_nil] at hk hlt
      simp only [bnd_some', bnd_none', bnd_map', ite_true', ite_false', sel_true', sel_false', optK_some, optK_none, getE_rI, len_rI, szL_rI, getE_rO, len_rO, szL_rO, getE_rD, len_rD, szL_rD, getE_rS, len_rS, szL_rS, getE_rV, len_rV, szL_rV, getE_rR, len_rR, szL_rR, szCk_rI, szCk_rO, szCk_rD, szCk_rS, szCk_rV, ckR_rI, ckR_rO, ckR_rS, ckR_rV, take_rO, take_rS, gO_0, gO_1, gO_2, gO_3, gO_4, gO_5, gO_6, gO_7, gO_8, gO_9, gD_0, gD_1, gD_2, gD_3, gD_4, gD_5, gS_0, gS_1, gV_0, gV_1, gV_2, gV_3, gV_4, gV_5, gW_0, gW_1, gSi_0, gSi_1, gSi_2, gSi_3, gSp_0, gSp_1, gSp_2, gSp_3, gF_0, gF_1, gR_0, gR_1, gR_2, cInt_I, Option.map_some, Int.toNat_natCast, Int.ofNat_lt, Int.natCast_nonneg, decide_true, decide_false, and_self, List.length_append, List.length_cons, List.length_nil, Nat.zero_add, Nat.add_zero, Bool.true_or, Bool.false_or, Bool.true_and, Bool.false_and, aInt_eq, aBool_eq, r9right_t0, hlt, hk]
      repeat' (first | refine goesO_dec ⟨fun _ => ?_, fun _ => ?_⟩ | refine goesO_ndec ⟨fun _ => ?_, fun _ => ?_⟩)
      all_goals first
        | (exfalso; omega)
        | (have hf : rtOK 0 r = false := decide_eq_false (by omega)
           simp only [goesO_some, goes_ret, rightGo, hf, Bool.false_and, aBool_eq, and_self])
        | (have hf : rtOK 0 r = true := decide_eq_true (by omega)
           simpa [goesO_some, rightGo, hf] using hin hf (by omega))
    · have hA : (A' ++ [q]).length = A'.length + 1 := by simp
      have hw : IntKind.wrap .i64 (((A' ++ [q]).length : Nat) - 1) = (A'.length : Int) := by rw [wrap_in (by omega) (by omega)]; omega
      have hk2 : p[A'.length]? = some q := by rw [h]; simp
      simp only [r9right_t0, hw]
      simp only [List.length_append, List.length_cons, List.length_nil, Nat.zero_add] at hk hlt
      simp only [bnd_some', bnd_none', bnd_map', ite_true', ite_false', sel_true', sel_false', optK_some, optK_none, getE_rI, len_rI, szL_rI, getE_rO, len_rO, szL_rO, getE_rD, len_rD, szL_rD, getE_rS, len_rS, szL_rS, getE_rV, len_rV, szL_rV, getE_rR, len_rR, szL_rR, szCk_rI, szCk_rO, szCk_rD, szCk_rS, szCk_rV, ckR_rI, ckR_rO, ckR_rS, ckR_rV, take_rO, take_rS, gO_0, gO_1, gO_2, gO_3, gO_4, gO_5, gO_6, gO_7, gO_8, gO_9, gD_0, gD_1, gD_2, gD_3, gD_4, gD_5, gS_0, gS_1, gV_0, gV_1, gV_2, gV_3, gV_4, gV_5, gW_0, gW_1, gSi_0, gSi_1, gSi_2, gSi_3, gSp_0, gSp_1, gSp_2, gSp_3, gF_0, gF_1, gR_0, gR_1, gR_2, cInt_I, Option.map_some, Int.toNat_natCast, Int.ofNat_lt, Int.natCast_nonneg, decide_true, decide_false, and_self, List.length_append, List.length_cons, List.length_nil, Nat.zero_add, Nat.add_zero, Bool.true_or, Bool.false_or, Bool.true_and, Bool.false_and, aInt_eq, aBool_eq, hlt, hk, hk2]
      repeat' (first | refine goesO_dec ⟨fun _ => ?_, fun _ => ?_⟩ | refine goesO_ndec ⟨fun _ => ?_, fun _ => ?_⟩)
      all_goals first
        | (exfalso; omega)
        | (have hf : rtOK q.drv r = false := decide_eq_false (by omega)
           simp only [goesO_some, goes_ret, rightGo, hf, Bool.false_and, aBool_eq, and_self])
        | (have hf : rtOK q.drv r = true := decide_eq_true (by omega)
           simpa [goesO_some, rightGo, hf] using hin hf (by omega))
theorem r9right_ok {p : List Rte} (hl : PlanOK p) : Contract Try.prog 67 [.c (.ro false (rR p))] [] (aBool (rightP p)) [] := by
  refine r9right_c p ?_
  simp only [r9right_te, len_rR]
  refine goesO_dec ⟨fun h => ?_, fun h => ?_⟩
  · have : ¬ p.length ≤ 8 := by omega
    simp [rightP, this]
  · have h' : p.length ≤ 8 := by omega
    have := r9right_loop p hl h' p [] 0 [] rfl (by simp) (.inl ⟨rfl, rfl⟩)
    simpa [rightP, h', rS] using this
noncomputable def r9right_G (G : GT) : GT := gAdd 67 (fun a H => match a, H with | [.c (.ro false l)], [] => dR l | _, _ => none) (fun p K => K (aBool (rightP p)) []) G
theorem r9right_g {G : GT} (h : GoodG Try.prog G) : GoodG Try.prog (r9right_G G) := by
  refine GoodG.add (fun a H p hp K out hk => ?_) h
  split at hp
  · obtain ⟨rfl, h3⟩ := dR_inv hp
    exact ⟨_, _, r9right_ok h3, hk⟩
  · cases hp
end Go.Proofs.Ytdognggfplnkiaa
