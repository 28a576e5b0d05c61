/-
  Contracts: are the orders known (deal.Known and drayref6.Known).
-/
import Derived.Test.YtdognggfplnkiaaM4
namespace Go.Proofs.Ytdognggfplnkiaa
open Go.AM
set_option linter.unusedVariables false
set_option linter.unusedSimpArgs false

/-- A map's size that is let by. -/
def nOK (n : Int) : Bool := decide (1 ≤ n ∧ n ≤ 12)
def okO (n : Int) (o : Ord) : Bool := decide (1 ≤ o.id ∧ o.id ≤ 1000000 ∧ 1 ≤ o.size ∧ o.size ≤ 1000 ∧ 0 ≤ o.pp ∧ o.pp < n ∧ 0 ≤ o.dp ∧ o.dp < n ∧ 0 ≤ o.pf ∧ o.pf ≤ o.pt ∧ o.pt ≤ 1000000 ∧ 0 ≤ o.df ∧ o.df ≤ o.dt ∧ o.dt ≤ 1000000 ∧ 0 ≤ o.ps ∧ o.ps ≤ 1000000 ∧ 0 ≤ o.ds ∧ o.ds ≤ 1000000)
def knownGo (n : Int) : List Ord → List Ord → Bool
  | _, [] => true
  | A, o :: B => okO n o && (!(A.any fun x => x.id == o.id) && knownGo n (A ++ [o]) B)
def knownO (n : Int) (os : List Ord) : Bool := decide (os.length ≤ 40) && knownGo n [] os
theorem known_in (n : Int) (es : List (List AC)) (os : List Ord) (o : Ord) (A : List Ord) (b : Bool) (hA : A.length < LIM) (k : Goes C_known (aBool b) [] (known_j0 n es os ((A.length + 1 : Nat) : Int))) :
    ∀ (B2 A2 : List Ord), A = A2 ++ B2 → Goes C_known (aBool (!(B2.any fun x => x.id == o.id) && b)) [] (known_j1 n es os o.id o.size o.pp o.pf o.pt o.ps o.dp o.df o.dt o.ds A.length (rO A) A.length A2.length) := by
  intro B2
  have hw := wrap_nat (n := A.length) (by omega)
  induction B2 with
  | nil => intro A2 h; rw [List.append_nil] at h; subst h; apply known_s1; simpa [known_t1, hw] using k
  | cons x B2 ih =>
    intro A2 h
    obtain ⟨hlt, hk, h2⟩ := at_splt h
    have hw2 := wrap_nat (n := A2.length) (by omega)
    have := ih (A2 ++ [x]) h2
    apply known_s1
    cases hid : x.id == o.id
    · simpa [known_t1, hlt, hk, hid, hw2] using this
    · simp [known_t1, hlt, hk, hid]
theorem known_loop (n : Int) (es : List (List AC)) (os : List Ord) (hn : nOK n = true) (hl : os.length ≤ LIM) : ∀ (B A : List Ord), os = A ++ B → Goes C_known (aBool (knownGo n A B)) [] (known_j0 n es os A.length) := by
  intro B
  have hn' : 1 ≤ n ∧ n ≤ 12 := of_decide_eq_true hn
  have hw1 : IntKind.wrap .i64 (n - 1) = n - 1 := wrap_in (by omega) (by omega)
  induction B with
  | nil => intro A h; rw [List.append_nil] at h; subst h; apply known_s0; simp [known_t0, knownGo]
  | cons o B ih =>
    intro A h
    obtain ⟨hlt, hk, h2⟩ := at_split h
    have := ih (A ++ [o]) h2
    have hin := known_in n es os o A (knownGo n (A ++ [o]) B) (by omega) (by simpa using this) A [] rfl
    have htake : os.take A.length = A := by rw [h]; simp
    apply known_s0
    have hle : A.length ≤ os.length := by omega
    simp only [bnd_some', bnd_none', bnd_map', ite_true', ite_false', sel_true', sel_false', optK_some, optK_none, getE_rI, len_rI, szL_rI, getE_rO, len_rO, szL_rO, getE_rD, len_rD, szL_rD, getE_rS, len_rS, szL_rS, getE_rV, len_rV, szL_rV, getE_rR, len_rR, szL_rR, szCk_rI, szCk_rO, szCk_rD, szCk_rS, szCk_rV, ckR_rI, ckR_rO, ckR_rS, ckR_rV, take_rO, take_rS, gO_0, gO_1, gO_2, gO_3, gO_4, gO_5, gO_6, gO_7, gO_8, gO_9, gD_0, gD_1, gD_2, gD_3, gD_4, gD_5, gS_0, gS_1, gV_0, gV_1, gV_2, gV_3, gV_4, gV_5, gW_0, gW_1, gSi_0, gSi_1, gSi_2, gSi_3, gSp_0, gSp_1, gSp_2, gSp_3, gF_0, gF_1, gR_0, gR_1, gR_2, cInt_I, Option.map_some, Int.toNat_natCast, Int.ofNat_lt, Int.natCast_nonneg, decide_true, decide_false, and_self, List.length_append, List.length_cons, List.length_nil, Nat.zero_add, Nat.add_zero, Bool.true_or, Bool.false_or, Bool.true_and, Bool.false_and, aInt_eq, aBool_eq, known_t0, hlt, hk, hw1, hle, htake]
    repeat' (first | refine goesO_dec ⟨fun _ => ?_, fun _ => ?_⟩ | refine goesO_ndec ⟨fun _ => ?_, fun _ => ?_⟩)
    all_goals first
      | (have hf : okO n o = false := decide_eq_false (by omega)
         simp only [goesO_some, goes_ret, knownGo, hf, Bool.false_and, aBool_eq, and_self])
      | (have hf : okO n o = true := decide_eq_true (by omega)
         simpa [goesO_some, knownGo, hf] using hin)
theorem known_ok {n : Int} (hn : nOK n = true) (es : List (List AC)) {os : List Ord} (hl : os.length ≤ LIM) : Contract Try.prog 50 [.c (.rp false [.v (.int .i64 n), .ro false es] 0), .c (.ro false (rO os))] [] (aBool (knownO n os)) [] := by
  refine known_c n es os ?_
  have := known_loop n es os hn hl os [] rfl
  simp only [known_te, len_rO]
  refine goesO_dec ⟨fun h => ?_, fun h => ?_⟩
  · have : ¬ os.length ≤ 40 := by omega
    simp [knownO, this]
  · have h' : os.length ≤ 40 := by omega
    simpa [knownO, h'] using this
noncomputable def known_G (G : GT) : GT := gAdd 50 (fun a H => match a, H with | [.c (.rp false [.v (.int .i64 n), .ro false es] 0), .c (.ro false l)], [] => bnd (dO l) fun os => (match nOK n with | true => some (n, es, os) | false => none) | _, _ => none) (fun p K => K (aBool (knownO p.1 p.2.2)) []) G
theorem known_g {G : GT} (h : GoodG Try.prog G) : GoodG Try.prog (known_G G) := by
  refine GoodG.add (fun a H p hp K out hk => ?_) h
  split at hp
  · obtain ⟨os, h1, h2⟩ := bnd_some hp
    split at h2
    · rename_i hn
      cases h2
      obtain ⟨rfl, h3⟩ := dO_inv h1
      exact ⟨_, _, known_ok hn _ h3, hk⟩
    · cases h2
  · cases hp

theorem r6known_in (n : Int) (es : List (List AC)) (os : List Ord) (o : Ord) (A B : List Ord) (b : Bool) (hos : os = A ++ o :: B) (hA : A.length < LIM) (k : Goes C_r6known (aBool b) [] (r6known_j0 n es os ((A.length + 1 : Nat) : Int))) :
    ∀ (B2 A2 : List Ord), A = A2 ++ B2 → Goes C_r6known (aBool (!(B2.any fun x => x.id == o.id) && b)) [] (r6known_j1 n es os A.length A2.length) := by
  intro B2
  have hw := wrap_nat (n := A.length) (by omega)
  obtain ⟨hlt, hk, _⟩ := at_split hos
  induction B2 with
  | nil => intro A2 h; rw [List.append_nil] at h; subst h; apply r6known_s1; simpa [r6known_t1, hw] using k
  | cons x B2 ih =>
    intro A2 h
    obtain ⟨hlt2, hk2, h2⟩ := at_split h
    have hk3 : os[A2.length]? = some x := by rw [hos, List.getElem?_append_left hlt2]; exact hk2
    have hw2 := wrap_nat (n := A2.length) (by omega)
    have := ih (A2 ++ [x]) h2
    apply r6known_s1
    simp only [bnd_some', bnd_none', bnd_map', ite_true', ite_false', sel_true', sel_false', optK_some, optK_none, getE_rI, len_rI, szL_rI, getE_rO, len_rO, szL_rO, getE_rD, len_rD, szL_rD, getE_rS, len_rS, szL_rS, getE_rV, len_rV, szL_rV, getE_rR, len_rR, szL_rR, szCk_rI, szCk_rO, szCk_rD, szCk_rS, szCk_rV, ckR_rI, ckR_rO, ckR_rS, ckR_rV, take_rO, take_rS, gO_0, gO_1, gO_2, gO_3, gO_4, gO_5, gO_6, gO_7, gO_8, gO_9, gD_0, gD_1, gD_2, gD_3, gD_4, gD_5, gS_0, gS_1, gV_0, gV_1, gV_2, gV_3, gV_4, gV_5, gW_0, gW_1, gSi_0, gSi_1, gSi_2, gSi_3, gSp_0, gSp_1, gSp_2, gSp_3, gF_0, gF_1, gR_0, gR_1, gR_2, cInt_I, Option.map_some, Int.toNat_natCast, Int.ofNat_lt, Int.natCast_nonneg, decide_true, decide_false, and_self, List.length_append, List.length_cons, List.length_nil, Nat.zero_add, Nat.add_zero, Bool.true_or, Bool.false_or, Bool.true_and, Bool.false_and, aInt_eq, aBool_eq, r6known_t1, hlt, hk, hk3, hw2, hlt2]
    cases hid : x.id == o.id
    · simpa [hid] using this
    · simp [hid]
theorem r6known_loop (n : Int) (es : List (List AC)) (os : List Ord) (hl : os.length ≤ LIM) : ∀ (B A : List Ord), os = A ++ B → Goes C_r6known (aBool (knownGo n A B)) [] (r6known_j0 n es os A.length) := by
  intro B
  induction B with
  | nil => intro A h; rw [List.append_nil] at h; subst h; apply r6known_s0; simp [r6known_t0, knownGo]
  | cons o B ih =>
    intro A h
    obtain ⟨hlt, hk, h2⟩ := at_split h
    have := ih (A ++ [o]) h2
    have hin := r6known_in n es os o A B (knownGo n (A ++ [o]) B) h (by omega) (by simpa using this) A [] rfl
    apply r6known_s0
    simp only [bnd_some', bnd_none', bnd_map', ite_true', ite_false', sel_true', sel_false', optK_some, optK_none, getE_rI, len_rI, szL_rI, getE_rO, len_rO, szL_rO, getE_rD, len_rD, szL_rD, getE_rS, len_rS, szL_rS, getE_rV, len_rV, szL_rV, getE_rR, len_rR, szL_rR, szCk_rI, szCk_rO, szCk_rD, szCk_rS, szCk_rV, ckR_rI, ckR_rO, ckR_rS, ckR_rV, take_rO, take_rS, gO_0, gO_1, gO_2, gO_3, gO_4, gO_5, gO_6, gO_7, gO_8, gO_9, gD_0, gD_1, gD_2, gD_3, gD_4, gD_5, gS_0, gS_1, gV_0, gV_1, gV_2, gV_3, gV_4, gV_5, gW_0, gW_1, gSi_0, gSi_1, gSi_2, gSi_3, gSp_0, gSp_1, gSp_2, gSp_3, gF_0, gF_1, gR_0, gR_1, gR_2, cInt_I, Option.map_some, Int.toNat_natCast, Int.ofNat_lt, Int.natCast_nonneg, decide_true, decide_false, and_self, List.length_append, List.length_cons, List.length_nil, Nat.zero_add, Nat.add_zero, Bool.true_or, Bool.false_or, Bool.true_and, Bool.false_and, aInt_eq, aBool_eq, r6known_t0, hlt, hk]
    repeat' (first | refine goesO_dec ⟨fun _ => ?_, fun _ => ?_⟩ | refine goesO_ndec ⟨fun _ => ?_, fun _ => ?_⟩)
    all_goals first
      | (have hf : okO n o = false := decide_eq_false (by omega)
         simp only [goesO_some, goes_ret, knownGo, hf, Bool.false_and, aBool_eq, and_self])
      | (have hf : okO n o = true := decide_eq_true (by omega)
         simpa [goesO_some, knownGo, hf] using hin)
theorem r6known_ok (n : Int) (es : List (List AC)) {os : List Ord} (hl : os.length ≤ LIM) : Contract Try.prog 66 [.c (.rp false [.v (.int .i64 n), .ro false es] 0), .c (.ro false (rO os))] [] (aBool (knownO n os)) [] := by
  refine r6known_c n es os ?_
  have := r6known_loop n es os hl os [] rfl
  simp only [r6known_te, len_rO]
  refine goesO_dec ⟨fun h => ?_, fun h => ?_⟩
  · have : ¬ os.length ≤ 40 := by omega
    simp [knownO, this]
  · have h' : os.length ≤ 40 := by omega
    simpa [knownO, h'] using this
noncomputable def r6known_G (G : GT) : GT := gAdd 66 (fun a H => match a, H with | [.c (.rp false [.v (.int .i64 n), .ro false es] 0), .c (.ro false l)], [] => bnd (dO l) fun os => some (n, es, os) | _, _ => none) (fun p K => K (aBool (knownO p.1 p.2.2)) []) G
theorem r6known_g {G : GT} (h : GoodG Try.prog G) : GoodG Try.prog (r6known_G G) := by
  refine GoodG.add (fun a H p hp K out hk => ?_) h
  split at hp
  · obtain ⟨os, h1, h2⟩ := bnd_some hp
    cases h2
    obtain ⟨rfl, h3⟩ := dO_inv h1
    exact ⟨_, _, r6known_ok _ _ h3, hk⟩
  · cases hp
end Go.Proofs.Ytdognggfplnkiaa
