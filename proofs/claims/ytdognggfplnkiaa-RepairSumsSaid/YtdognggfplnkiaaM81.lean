/-
  Contracts: a map made (geo.New and drayref4.New).
-/
import Derived.Test.YtdognggfplnkiaaM8
namespace Go.Proofs.Ytdognggfplnkiaa
open Go.AM
set_option linter.unusedVariables false
set_option linter.unusedSimpArgs false

def diagGo (n : Int) (l : List Int) : Nat → Int → Bool
  | 0, _ => true
  | k + 1, i => (l[(i * n + i).toNat]? == some 0) && diagGo n l k (i + 1)
def rngOK (t : Int) : Bool := decide (0 ≤ t ∧ t ≤ 1000000)
def newE (n : Int) (l : List Int) : Int := if 1 ≤ n ∧ n ≤ 12 then (if (l.length : Int) = n * n then (if l.all rngOK then (if diagGo n l n.toNat 0 then 0 else 4) else 7) else 2) else 1
theorem newE_mapOK {n : Int} {l : List Int} (h : newE n l = 0) : mapOK n l = true := by
  unfold newE at h
  split at h
  · split at h
    · split at h
      · rename_i h1 h2 h3
        unfold mapOK
        rw [Bool.and_eq_true]
        exact ⟨decide_eq_true ⟨h1.1, h1.2, h2⟩, h3⟩
      · cases h
    · cases h
  · cases h
theorem gnew_loop1 {n : Int} {l : List Int} (hn : 1 ≤ n ∧ n ≤ 12) (hl : (l.length : Int) = n * n) (hr : l.all rngOK = true) {r : AV} {H' : List Buf} (k1 : diagGo n l n.toNat 0 = true → AV.tup [.c (.ptr 0 0 0), .c (.v (.int .i64 0))] = r ∧ [Buf.obj 72 [.v (.int .i64 n), .ref 1], .row true 1 (rI l)] = H') (k2 : diagGo n l n.toNat 0 = false → AV.tup [.c (.v (.pointer .none)), .c (.v (.int .i64 4))] = r ∧ [] = H') :
    ∀ (k : Nat) (i : Nat), (i : Int) + k = n → diagGo n l n.toNat 0 = diagGo n l k i → Goes C_gnew r H' (gnew_j1 n l i) := by
  intro k
  have hq := sq_le hn.1 hn.2
  induction k with
  | zero =>
    intro i hi hd
    apply gnew_s1
    have h1 : ¬ ((i : Int) < n) := by omega
    have h2 := k1 (by rw [hd]; rfl)
    have h3 : fitsB l.length 8 = true := fits_of (by have : SM = 1048576 := rfl; have : LIM = 9223372036854775807 := rfl; omega) (by omega)
    simp only [gnew_t1, bnd_some', bnd_none', bnd_map', ite_true', ite_false', sel_true', sel_false', optK_some, optK_none, getE_rI, len_rI, szL_rI, getE_rO, len_rO, szL_rO, getE_rD, len_rD, szL_rD, getE_rS, len_rS, szL_rS, getE_rV, len_rV, szL_rV, getE_rR, len_rR, szL_rR, szCk_rI, szCk_rO, szCk_rD, szCk_rS, szCk_rV, ckR_rI, ckR_rO, ckR_rS, ckR_rV, take_rO, take_rS, gO_0, gO_1, gO_2, gO_3, gO_4, gO_5, gO_6, gO_7, gO_8, gO_9, gD_0, gD_1, gD_2, gD_3, gD_4, gD_5, gS_0, gS_1, gV_0, gV_1, gV_2, gV_3, gV_4, gV_5, gW_0, gW_1, gSi_0, gSi_1, gSi_2, gSi_3, gSp_0, gSp_1, gSp_2, gSp_3, gF_0, gF_1, gR_0, gR_1, gR_2, cInt_I, Option.map_some, Int.toNat_natCast, Int.ofNat_lt, Int.natCast_nonneg, decide_true, decide_false, and_self, List.length_append, List.length_cons, List.length_nil, Nat.zero_add, Nat.add_zero, Bool.true_or, Bool.false_or, Bool.true_and, Bool.false_and, aInt_eq, aBool_eq, h1, h3]
    simpa using h2
  | succ k ih =>
    intro i hi hd
    have h1 : ((i : Int) < n) := by omega
    have hix := idx_le hn (a := i) (b := i) ⟨by omega, h1⟩ ⟨by omega, h1⟩
    have e1 : IntKind.wrap .i64 ((i : Int) * n) = i * n := wrap_in (by omega) (by omega)
    have e2 : IntKind.wrap .i64 ((i : Int) * n + i) = i * n + i := wrap_in (by omega) (by omega)
    have hw := wrap_nat (n := i) (by have : SM = 1048576 := rfl; have : LIM = 9223372036854775807 := rfl; omega)
    have h0 : 0 ≤ (i : Int) * n + i := by omega
    have hlt : ((i : Int) * n + i).toNat < l.length := by omega
    have hg : l[((i : Int) * n + i).toNat]? = some l[((i : Int) * n + i).toNat] := List.getElem?_eq_getElem hlt
    apply gnew_s1
    simp only [gnew_t1, bnd_some', bnd_none', bnd_map', ite_true', ite_false', sel_true', sel_false', optK_some, optK_none, getE_rI, len_rI, szL_rI, getE_rO, len_rO, szL_rO, getE_rD, len_rD, szL_rD, getE_rS, len_rS, szL_rS, getE_rV, len_rV, szL_rV, getE_rR, len_rR, szL_rR, szCk_rI, szCk_rO, szCk_rD, szCk_rS, szCk_rV, ckR_rI, ckR_rO, ckR_rS, ckR_rV, take_rO, take_rS, gO_0, gO_1, gO_2, gO_3, gO_4, gO_5, gO_6, gO_7, gO_8, gO_9, gD_0, gD_1, gD_2, gD_3, gD_4, gD_5, gS_0, gS_1, gV_0, gV_1, gV_2, gV_3, gV_4, gV_5, gW_0, gW_1, gSi_0, gSi_1, gSi_2, gSi_3, gSp_0, gSp_1, gSp_2, gSp_3, gF_0, gF_1, gR_0, gR_1, gR_2, cInt_I, Option.map_some, Int.toNat_natCast, Int.ofNat_lt, Int.natCast_nonneg, decide_true, decide_false, and_self, List.length_append, List.length_cons, List.length_nil, Nat.zero_add, Nat.add_zero, Bool.true_or, Bool.false_or, Bool.true_and, Bool.false_and, aInt_eq, aBool_eq, h1, e1, e2, h0, hg]
    cases hz : l[((i : Int) * n + i).toNat] == 0
    · have hz' : (l[((i : Int) * n + i).toNat] != 0) = true := by simp [bne, hz]
      have := k2 (by rw [hd]; simp only [diagGo, hg]; simp at hz; simp [hz])
      simp only [hz', ite_true', goesO_some, goes_ret]
      exact this
    · have hz' : (l[((i : Int) * n + i).toNat] != 0) = false := by simp [bne, hz]
      have := ih (i + 1) (by omega) (by rw [hd]; simp only [diagGo, hg]; simp at hz; simp [hz])
      simp only [hz', ite_false', goesO_some, hw]
      exact this
theorem gnew_loop0 {n : Int} {l : List Int} (hl : l.length ≤ LIM) {r : AV} {H' : List Buf} (k1 : l.all rngOK = true → Goes C_gnew r H' (gnew_j1 n l 0)) (k2 : l.all rngOK = false → AV.tup [.c (.v (.pointer .none)), .c (.v (.int .i64 7))] = r ∧ [] = H') :
    ∀ (B A : List Int), l = A ++ B → l.all rngOK = B.all rngOK → Goes C_gnew r H' (gnew_j0 n l A.length) := by
  intro B
  induction B with
  | nil => intro A h ha; rw [List.append_nil] at h; subst h; apply gnew_s0; simp only [gnew_t0, bnd_some', bnd_none', bnd_map', ite_true', ite_false', sel_true', sel_false', optK_some, optK_none, getE_rI, len_rI, szL_rI, getE_rO, len_rO, szL_rO, getE_rD, len_rD, szL_rD, getE_rS, len_rS, szL_rS, getE_rV, len_rV, szL_rV, getE_rR, len_rR, szL_rR, szCk_rI, szCk_rO, szCk_rD, szCk_rS, szCk_rV, ckR_rI, ckR_rO, ckR_rS, ckR_rV, take_rO, take_rS, gO_0, gO_1, gO_2, gO_3, gO_4, gO_5, gO_6, gO_7, gO_8, gO_9, gD_0, gD_1, gD_2, gD_3, gD_4, gD_5, gS_0, gS_1, gV_0, gV_1, gV_2, gV_3, gV_4, gV_5, gW_0, gW_1, gSi_0, gSi_1, gSi_2, gSi_3, gSp_0, gSp_1, gSp_2, gSp_3, gF_0, gF_1, gR_0, gR_1, gR_2, cInt_I, Option.map_some, Int.toNat_natCast, Int.ofNat_lt, Int.natCast_nonneg, decide_true, decide_false, and_self, List.length_append, List.length_cons, List.length_nil, Nat.zero_add, Nat.add_zero, Bool.true_or, Bool.false_or, Bool.true_and, Bool.false_and, aInt_eq, aBool_eq]; simpa using k1 (by rw [ha]; rfl)
  | cons t B ih =>
    intro A h ha
    obtain ⟨hlt, hk, h2⟩ := at_split h
    have hw := wrap_nat (n := A.length) (by omega)
    apply gnew_s0
    simp only [gnew_t0, bnd_some', bnd_none', bnd_map', ite_true', ite_false', sel_true', sel_false', optK_some, optK_none, getE_rI, len_rI, szL_rI, getE_rO, len_rO, szL_rO, getE_rD, len_rD, szL_rD, getE_rS, len_rS, szL_rS, getE_rV, len_rV, szL_rV, getE_rR, len_rR, szL_rR, szCk_rI, szCk_rO, szCk_rD, szCk_rS, szCk_rV, ckR_rI, ckR_rO, ckR_rS, ckR_rV, take_rO, take_rS, gO_0, gO_1, gO_2, gO_3, gO_4, gO_5, gO_6, gO_7, gO_8, gO_9, gD_0, gD_1, gD_2, gD_3, gD_4, gD_5, gS_0, gS_1, gV_0, gV_1, gV_2, gV_3, gV_4, gV_5, gW_0, gW_1, gSi_0, gSi_1, gSi_2, gSi_3, gSp_0, gSp_1, gSp_2, gSp_3, gF_0, gF_1, gR_0, gR_1, gR_2, cInt_I, Option.map_some, Int.toNat_natCast, Int.ofNat_lt, Int.natCast_nonneg, decide_true, decide_false, and_self, List.length_append, List.length_cons, List.length_nil, Nat.zero_add, Nat.add_zero, Bool.true_or, Bool.false_or, Bool.true_and, Bool.false_and, aInt_eq, aBool_eq, hlt, hk, hw]
    refine goesO_dec ⟨fun h1 => ?_, fun h1 => ?_⟩
    · have hf : rngOK t = false := decide_eq_false (by omega)
      simpa using k2 (by rw [ha]; simp [hf])
    refine goesO_dec ⟨fun h3 => ?_, fun h3 => ?_⟩
    · have hf : rngOK t = false := decide_eq_false (by omega)
      simpa using k2 (by rw [ha]; simp [hf])
    · have hf : rngOK t = true := decide_eq_true (by omega)
      have := ih (A ++ [t]) h2 (by rw [ha]; simp [hf])
      simpa using this
def rNew (e : Int) : AV := .tup [.c (.v (.pointer .none)), .c (.v (.int .i64 e))]
def rNew0 : AV := .tup [.c (.ptr 0 0 0), .c (.v (.int .i64 0))]
theorem gnew_ok (n : Int) {l : List Int} (hl : l.length ≤ LIM) : (newE n l = 0 → Contract Try.prog 8 [aInt .i64 n, .c (.ro false (rI l))] [] rNew0 [.obj 72 [.v (.int .i64 n), .ref 1], .row true 1 (rI l)]) ∧ (newE n l ≠ 0 → Contract Try.prog 8 [aInt .i64 n, .c (.ro false (rI l))] [] (rNew (newE n l)) []) := by
  have key : ∀ (r : AV) (H' : List Buf), (newE n l = 0 → rNew0 = r ∧ [Buf.obj 72 [.v (.int .i64 n), .ref 1], .row true 1 (rI l)] = H') → (newE n l ≠ 0 → rNew (newE n l) = r ∧ [] = H') → Contract Try.prog 8 [aInt .i64 n, .c (.ro false (rI l))] [] r H' := by
    intro r H' k1 k2
    refine gnew_c n l ?_
    simp only [gnew_te, bnd_some', bnd_none', bnd_map', ite_true', ite_false', sel_true', sel_false', optK_some, optK_none, getE_rI, len_rI, szL_rI, getE_rO, len_rO, szL_rO, getE_rD, len_rD, szL_rD, getE_rS, len_rS, szL_rS, getE_rV, len_rV, szL_rV, getE_rR, len_rR, szL_rR, szCk_rI, szCk_rO, szCk_rD, szCk_rS, szCk_rV, ckR_rI, ckR_rO, ckR_rS, ckR_rV, take_rO, take_rS, gO_0, gO_1, gO_2, gO_3, gO_4, gO_5, gO_6, gO_7, gO_8, gO_9, gD_0, gD_1, gD_2, gD_3, gD_4, gD_5, gS_0, gS_1, gV_0, gV_1, gV_2, gV_3, gV_4, gV_5, gW_0, gW_1, gSi_0, gSi_1, gSi_2, gSi_3, gSp_0, gSp_1, gSp_2, gSp_3, gF_0, gF_1, gR_0, gR_1, gR_2, cInt_I, Option.map_some, Int.toNat_natCast, Int.ofNat_lt, Int.natCast_nonneg, decide_true, decide_false, and_self, List.length_append, List.length_cons, List.length_nil, Nat.zero_add, Nat.add_zero, Bool.true_or, Bool.false_or, Bool.true_and, Bool.false_and, aInt_eq, aBool_eq]
    refine goesO_dec ⟨fun h1 => ?_, fun h1 => ?_⟩
    · have hE : newE n l = 1 := by unfold newE; rw [if_neg (by omega)]
      rw [hE] at k2; simpa [rNew] using k2 (by omega)
    refine goesO_dec ⟨fun h2 => ?_, fun h2 => ?_⟩
    · have hE : newE n l = 1 := by unfold newE; rw [if_neg (by omega)]
      rw [hE] at k2; simpa [rNew] using k2 (by omega)
    have hn : 1 ≤ n ∧ n ≤ 12 := by omega
    have hq := sq_le hn.1 hn.2
    have hq0 : 0 ≤ n * n := Int.mul_nonneg (by omega) (by omega)
    have e1 : IntKind.wrap .i64 (n * n) = n * n := wrap_in (by omega) (by omega)
    rw [e1]
    refine goesO_bne ⟨fun h3 => ?_, fun h3 => ?_⟩
    · have e2 : newE n l = if l.all rngOK then (if diagGo n l n.toNat 0 then 0 else 4) else 7 := by unfold newE; rw [if_pos hn, if_pos h3]
      have := gnew_loop0 (n := n) (l := l) (r := r) (H' := H') hl (fun ha => by
        rw [ha] at e2
        simp only [if_true] at e2
        refine gnew_loop1 hn h3 ha (fun hd => ?_) (fun hd => ?_) n.toNat 0 (by omega) rfl
        · rw [hd] at e2; exact k1 e2
        · rw [hd] at e2; simp only [Bool.false_eq_true, if_false] at e2; rw [e2] at k2; exact k2 (by omega)) (fun ha => by
        rw [ha] at e2; simp only [Bool.false_eq_true, if_false] at e2; rw [e2] at k2; exact k2 (by omega)) l [] rfl rfl
      simpa using this
    · have hE : newE n l = 2 := by unfold newE; rw [if_pos hn, if_neg h3]
      rw [hE] at k2; simpa [rNew] using k2 (by omega)
  exact ⟨fun h => key _ _ (fun _ => ⟨rfl, rfl⟩) (fun h' => absurd h h'), fun h => key _ _ (fun h' => absurd h' h) (fun _ => ⟨rfl, rfl⟩)⟩
noncomputable def gnew_G (G : GT) : GT := gAdd 8 (fun a H => match a, H with | [.c (.v (.int .i64 n)), .c (.ro false es)], [] => bnd (dI es) fun l => some (n, l) | _, _ => none) (fun p K => ite' (newE p.1 p.2 == 0) (K rNew0 [.obj 72 [.v (.int .i64 p.1), .ref 1], .row true 1 (rI p.2)]) (K (rNew (newE p.1 p.2)) [])) G
theorem gnew_g {G : GT} (h : GoodG Try.prog G) : GoodG Try.prog (gnew_G G) := by
  refine GoodG.add (fun a H p hp K out hk => ?_) h
  split at hp
  · obtain ⟨l, h1, hp⟩ := bnd_some hp
    cases hp
    obtain ⟨rfl, h5⟩ := dI_inv h1
    obtain ⟨k1, k2⟩ := gnew_ok _ h5
    dsimp only at hk
    cases he : (newE _ l == 0) with
    | true => rw [he] at hk; exact ⟨_, _, k1 (eq_of_beq he), hk⟩
    | false => rw [he] at hk; exact ⟨_, _, k2 (by intro h; rw [h] at he; simp at he), hk⟩
  · cases hp

theorem r4new_loop1 {n : Int} {l : List Int} (hn : 1 ≤ n ∧ n ≤ 12) (hl : (l.length : Int) = n * n) (hr : l.all rngOK = true) {r : AV} {H' : List Buf} (k1 : diagGo n l n.toNat 0 = true → AV.tup [.c (.ptr 0 0 0), .c (.v (.int .i64 0))] = r ∧ [Buf.obj 101 [.v (.int .i64 n), .ref 1], .row true 1 (rI l)] = H') (k2 : diagGo n l n.toNat 0 = false → AV.tup [.c (.v (.pointer .none)), .c (.v (.int .i64 4))] = r ∧ [] = H') :
    ∀ (k : Nat) (i : Nat), (i : Int) + k = n → diagGo n l n.toNat 0 = diagGo n l k i → Goes C_r4new r H' (r4new_j1 n l i) := by
  intro k
  have hq := sq_le hn.1 hn.2
  induction k with
  | zero =>
    intro i hi hd
    apply r4new_s1
    have h1 : ¬ ((i : Int) < n) := by omega
    have h2 := k1 (by rw [hd]; rfl)
    have h3 : fitsB l.length 8 = true := fits_of (by have : SM = 1048576 := rfl; have : LIM = 9223372036854775807 := rfl; omega) (by omega)
    simp only [r4new_t1, bnd_some', bnd_none', bnd_map', ite_true', ite_false', sel_true', sel_false', optK_some, optK_none, getE_rI, len_rI, szL_rI, getE_rO, len_rO, szL_rO, getE_rD, len_rD, szL_rD, getE_rS, len_rS, szL_rS, getE_rV, len_rV, szL_rV, getE_rR, len_rR, szL_rR, szCk_rI, szCk_rO, szCk_rD, szCk_rS, szCk_rV, ckR_rI, ckR_rO, ckR_rS, ckR_rV, take_rO, take_rS, gO_0, gO_1, gO_2, gO_3, gO_4, gO_5, gO_6, gO_7, gO_8, gO_9, gD_0, gD_1, gD_2, gD_3, gD_4, gD_5, gS_0, gS_1, gV_0, gV_1, gV_2, gV_3, gV_4, gV_5, gW_0, gW_1, gSi_0, gSi_1, gSi_2, gSi_3, gSp_0, gSp_1, gSp_2, gSp_3, gF_0, gF_1, gR_0, gR_1, gR_2, cInt_I, Option.map_some, Int.toNat_natCast, Int.ofNat_lt, Int.natCast_nonneg, decide_true, decide_false, and_self, List.length_append, List.length_cons, List.length_nil, Nat.zero_add, Nat.add_zero, Bool.true_or, Bool.false_or, Bool.true_and, Bool.false_and, aInt_eq, aBool_eq, h1, List.length_replicate, h3]
    simpa using h2
  | succ k ih =>
    intro i hi hd
    have h1 : ((i : Int) < n) := by omega
    have hix := idx_le hn (a := i) (b := i) ⟨by omega, h1⟩ ⟨by omega, h1⟩
    have e1 : IntKind.wrap .i64 ((i : Int) * n) = i * n := wrap_in (by omega) (by omega)
    have e2 : IntKind.wrap .i64 ((i : Int) * n + i) = i * n + i := wrap_in (by omega) (by omega)
    have hw := wrap_nat (n := i) (by have : SM = 1048576 := rfl; have : LIM = 9223372036854775807 := rfl; omega)
    have h0 : 0 ≤ (i : Int) * n + i := by omega
    have hlt : ((i : Int) * n + i).toNat < l.length := by omega
    have hg : l[((i : Int) * n + i).toNat]? = some l[((i : Int) * n + i).toNat] := List.getElem?_eq_getElem hlt
    apply r4new_s1
    simp only [r4new_t1, bnd_some', bnd_none', bnd_map', ite_true', ite_false', sel_true', sel_false', optK_some, optK_none, getE_rI, len_rI, szL_rI, getE_rO, len_rO, szL_rO, getE_rD, len_rD, szL_rD, getE_rS, len_rS, szL_rS, getE_rV, len_rV, szL_rV, getE_rR, len_rR, szL_rR, szCk_rI, szCk_rO, szCk_rD, szCk_rS, szCk_rV, ckR_rI, ckR_rO, ckR_rS, ckR_rV, take_rO, take_rS, gO_0, gO_1, gO_2, gO_3, gO_4, gO_5, gO_6, gO_7, gO_8, gO_9, gD_0, gD_1, gD_2, gD_3, gD_4, gD_5, gS_0, gS_1, gV_0, gV_1, gV_2, gV_3, gV_4, gV_5, gW_0, gW_1, gSi_0, gSi_1, gSi_2, gSi_3, gSp_0, gSp_1, gSp_2, gSp_3, gF_0, gF_1, gR_0, gR_1, gR_2, cInt_I, Option.map_some, Int.toNat_natCast, Int.ofNat_lt, Int.natCast_nonneg, decide_true, decide_false, and_self, List.length_append, List.length_cons, List.length_nil, Nat.zero_add, Nat.add_zero, Bool.true_or, Bool.false_or, Bool.true_and, Bool.false_and, aInt_eq, aBool_eq, h1, e1, e2, h0, hg]
    cases hz : l[((i : Int) * n + i).toNat] == 0
    · have hz' : (l[((i : Int) * n + i).toNat] != 0) = true := by simp [bne, hz]
      have := k2 (by rw [hd]; simp only [diagGo, hg]; simp at hz; simp [hz])
      simp only [hz', ite_true', goesO_some, goes_ret]
      exact this
    · have hz' : (l[((i : Int) * n + i).toNat] != 0) = false := by simp [bne, hz]
      have := ih (i + 1) (by omega) (by rw [hd]; simp only [diagGo, hg]; simp at hz; simp [hz])
      simp only [hz', ite_false', goesO_some, hw]
      exact this
theorem r4new_loop0 {n : Int} {l : List Int} (hl : l.length ≤ LIM) {r : AV} {H' : List Buf} (k1 : l.all rngOK = true → Goes C_r4new r H' (r4new_j1 n l 0)) (k2 : l.all rngOK = false → AV.tup [.c (.v (.pointer .none)), .c (.v (.int .i64 7))] = r ∧ [] = H') :
    ∀ (B A : List Int), l = A ++ B → l.all rngOK = B.all rngOK → Goes C_r4new r H' (r4new_j0 n l A.length) := by
  intro B
  induction B with
  | nil => intro A h ha; rw [List.append_nil] at h; subst h; apply r4new_s0; simp only [r4new_t0, bnd_some', bnd_none', bnd_map', ite_true', ite_false', sel_true', sel_false', optK_some, optK_none, getE_rI, len_rI, szL_rI, getE_rO, len_rO, szL_rO, getE_rD, len_rD, szL_rD, getE_rS, len_rS, szL_rS, getE_rV, len_rV, szL_rV, getE_rR, len_rR, szL_rR, szCk_rI, szCk_rO, szCk_rD, szCk_rS, szCk_rV, ckR_rI, ckR_rO, ckR_rS, ckR_rV, take_rO, take_rS, gO_0, gO_1, gO_2, gO_3, gO_4, gO_5, gO_6, gO_7, gO_8, gO_9, gD_0, gD_1, gD_2, gD_3, gD_4, gD_5, gS_0, gS_1, gV_0, gV_1, gV_2, gV_3, gV_4, gV_5, gW_0, gW_1, gSi_0, gSi_1, gSi_2, gSi_3, gSp_0, gSp_1, gSp_2, gSp_3, gF_0, gF_1, gR_0, gR_1, gR_2, cInt_I, Option.map_some, Int.toNat_natCast, Int.ofNat_lt, Int.natCast_nonneg, decide_true, decide_false, and_self, List.length_append, List.length_cons, List.length_nil, Nat.zero_add, Nat.add_zero, Bool.true_or, Bool.false_or, Bool.true_and, Bool.false_and, aInt_eq, aBool_eq]; simpa using k1 (by rw [ha]; rfl)
  | cons t B ih =>
    intro A h ha
    obtain ⟨hlt, hk, h2⟩ := at_split h
    have hw := wrap_nat (n := A.length) (by omega)
    apply r4new_s0
    simp only [r4new_t0, bnd_some', bnd_none', bnd_map', ite_true', ite_false', sel_true', sel_false', optK_some, optK_none, getE_rI, len_rI, szL_rI, getE_rO, len_rO, szL_rO, getE_rD, len_rD, szL_rD, getE_rS, len_rS, szL_rS, getE_rV, len_rV, szL_rV, getE_rR, len_rR, szL_rR, szCk_rI, szCk_rO, szCk_rD, szCk_rS, szCk_rV, ckR_rI, ckR_rO, ckR_rS, ckR_rV, take_rO, take_rS, gO_0, gO_1, gO_2, gO_3, gO_4, gO_5, gO_6, gO_7, gO_8, gO_9, gD_0, gD_1, gD_2, gD_3, gD_4, gD_5, gS_0, gS_1, gV_0, gV_1, gV_2, gV_3, gV_4, gV_5, gW_0, gW_1, gSi_0, gSi_1, gSi_2, gSi_3, gSp_0, gSp_1, gSp_2, gSp_3, gF_0, gF_1, gR_0, gR_1, gR_2, cInt_I, Option.map_some, Int.toNat_natCast, Int.ofNat_lt, Int.natCast_nonneg, decide_true, decide_false, and_self, List.length_append, List.length_cons, List.length_nil, Nat.zero_add, Nat.add_zero, Bool.true_or, Bool.false_or, Bool.true_and, Bool.false_and, aInt_eq, aBool_eq, hlt, hk, hw]
    refine goesO_dec ⟨fun h1 => ?_, fun h1 => ?_⟩
    · have hf : rngOK t = false := decide_eq_false (by omega)
      simpa using k2 (by rw [ha]; simp [hf])
    refine goesO_dec ⟨fun h3 => ?_, fun h3 => ?_⟩
    · have hf : rngOK t = false := decide_eq_false (by omega)
      simpa using k2 (by rw [ha]; simp [hf])
    · have hf : rngOK t = true := decide_eq_true (by omega)
      have := ih (A ++ [t]) h2 (by rw [ha]; simp [hf])
      simpa using this
theorem r4new_ok (n : Int) {l : List Int} (hl : l.length ≤ LIM) : (newE n l = 0 → Contract Try.prog 27 [aInt .i64 n, .c (.ro false (rI l))] [] rNew0 [.obj 101 [.v (.int .i64 n), .ref 1], .row true 1 (rI l)]) ∧ (newE n l ≠ 0 → Contract Try.prog 27 [aInt .i64 n, .c (.ro false (rI l))] [] (rNew (newE n l)) []) := by
  have key : ∀ (r : AV) (H' : List Buf), (newE n l = 0 → rNew0 = r ∧ [Buf.obj 101 [.v (.int .i64 n), .ref 1], .row true 1 (rI l)] = H') → (newE n l ≠ 0 → rNew (newE n l) = r ∧ [] = H') → Contract Try.prog 27 [aInt .i64 n, .c (.ro false (rI l))] [] r H' := by
    intro r H' k1 k2
    refine r4new_c n l ?_
    simp only [r4new_te, bnd_some', bnd_none', bnd_map', ite_true', ite_false', sel_true', sel_false', optK_some, optK_none, getE_rI, len_rI, szL_rI, getE_rO, len_rO, szL_rO, getE_rD, len_rD, szL_rD, getE_rS, len_rS, szL_rS, getE_rV, len_rV, szL_rV, getE_rR, len_rR, szL_rR, szCk_rI, szCk_rO, szCk_rD, szCk_rS, szCk_rV, ckR_rI, ckR_rO, ckR_rS, ckR_rV, take_rO, take_rS, gO_0, gO_1, gO_2, gO_3, gO_4, gO_5, gO_6, gO_7, gO_8, gO_9, gD_0, gD_1, gD_2, gD_3, gD_4, gD_5, gS_0, gS_1, gV_0, gV_1, gV_2, gV_3, gV_4, gV_5, gW_0, gW_1, gSi_0, gSi_1, gSi_2, gSi_3, gSp_0, gSp_1, gSp_2, gSp_3, gF_0, gF_1, gR_0, gR_1, gR_2, cInt_I, Option.map_some, Int.toNat_natCast, Int.ofNat_lt, Int.natCast_nonneg, decide_true, decide_false, and_self, List.length_append, List.length_cons, List.length_nil, Nat.zero_add, Nat.add_zero, Bool.true_or, Bool.false_or, Bool.true_and, Bool.false_and, aInt_eq, aBool_eq]
    refine goesO_dec ⟨fun h1 => ?_, fun h1 => ?_⟩
    · have hE : newE n l = 1 := by unfold newE; rw [if_neg (by omega)]
      rw [hE] at k2; simpa [rNew] using k2 (by omega)
    refine goesO_dec ⟨fun h2 => ?_, fun h2 => ?_⟩
    · have hE : newE n l = 1 := by unfold newE; rw [if_neg (by omega)]
      rw [hE] at k2; simpa [rNew] using k2 (by omega)
    have hn : 1 ≤ n ∧ n ≤ 12 := by omega
    have hq := sq_le hn.1 hn.2
    have hq0 : 0 ≤ n * n := Int.mul_nonneg (by omega) (by omega)
    have e1 : IntKind.wrap .i64 (n * n) = n * n := wrap_in (by omega) (by omega)
    rw [e1]
    refine goesO_bne ⟨fun h3 => ?_, fun h3 => ?_⟩
    · have e2 : newE n l = if l.all rngOK then (if diagGo n l n.toNat 0 then 0 else 4) else 7 := by unfold newE; rw [if_pos hn, if_pos h3]
      have := r4new_loop0 (n := n) (l := l) (r := r) (H' := H') hl (fun ha => by
        rw [ha] at e2
        simp only [if_true] at e2
        refine r4new_loop1 hn h3 ha (fun hd => ?_) (fun hd => ?_) n.toNat 0 (by omega) rfl
        · rw [hd] at e2; exact k1 e2
        · rw [hd] at e2; simp only [Bool.false_eq_true, if_false] at e2; rw [e2] at k2; exact k2 (by omega)) (fun ha => by
        rw [ha] at e2; simp only [Bool.false_eq_true, if_false] at e2; rw [e2] at k2; exact k2 (by omega)) l [] rfl rfl
      simpa using this
    · have hE : newE n l = 2 := by unfold newE; rw [if_pos hn, if_neg h3]
      rw [hE] at k2; simpa [rNew] using k2 (by omega)
  exact ⟨fun h => key _ _ (fun _ => ⟨rfl, rfl⟩) (fun h' => absurd h h'), fun h => key _ _ (fun h' => absurd h' h) (fun _ => ⟨rfl, rfl⟩)⟩
noncomputable def r4new_G (G : GT) : GT := gAdd 27 (fun a H => match a, H with | [.c (.v (.int .i64 n)), .c (.ro false es)], [] => bnd (dI es) fun l => some (n, l) | _, _ => none) (fun p K => ite' (newE p.1 p.2 == 0) (K rNew0 [.obj 101 [.v (.int .i64 p.1), .ref 1], .row true 1 (rI p.2)]) (K (rNew (newE p.1 p.2)) [])) G
theorem r4new_g {G : GT} (h : GoodG Try.prog G) : GoodG Try.prog (r4new_G G) := by
  refine GoodG.add (fun a H p hp K out hk => ?_) h
  split at hp
  · obtain ⟨l, h1, hp⟩ := bnd_some hp
    cases hp
    obtain ⟨rfl, h5⟩ := dI_inv h1
    obtain ⟨k1, k2⟩ := r4new_ok _ h5
    dsimp only at hk
    cases he : (newE _ l == 0) with
    | true => rw [he] at hk; exact ⟨_, _, k1 (eq_of_beq he), hk⟩
    | false => rw [he] at hk; exact ⟨_, _, k2 (by intro h; rw [h] at he; simp at he), hk⟩
  · cases hp
end Go.Proofs.Ytdognggfplnkiaa
