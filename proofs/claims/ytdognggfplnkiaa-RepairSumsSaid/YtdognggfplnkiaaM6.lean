/-
  Contracts: a route driven (route.Timed and drayref6.Drive).
-/
import Derived.Test.YtdognggfplnkiaaF6
namespace Go.Proofs.Ytdognggfplnkiaa
open Go.AM
set_option linter.unusedVariables false
set_option linter.unusedSimpArgs false

theorem stp_eta (s : Stp) : Stp.mk s.ord s.drop = s := rfl
theorem drv_eta (d : Drv) : Drv.mk d.id d.room d.home d.frm d.till d.ret = d := rfl
theorem knownGo_all (n : Int) : ∀ (B A : List Ord), knownGo n A B = true → ∀ o ∈ B, okO n o = true
  | [], _, _, o, h => by simp at h
  | x :: B, A, h, o, ho => by
    simp only [knownGo, Bool.and_eq_true] at h
    rcases List.mem_cons.1 ho with rfl | ho
    · exact h.1
    · exact knownGo_all n B _ h.2.2 o ho
theorem knownO_find {n : Int} {os : List Ord} (h : knownO n os = true) {id : Int} {o : Ord} (ho : findO os id = some o) : okO n o = true := by
  unfold knownO at h
  exact knownGo_all n os [] (Bool.and_eq_true_iff.1 h).2 o (List.mem_of_find?_eq_some ho)
theorem okO_p {n : Int} {o : Ord} (h : okO n o = true) : 1 ≤ o.id ∧ o.id ≤ 1000000 ∧ 1 ≤ o.size ∧ o.size ≤ 1000 ∧ 0 ≤ o.pp ∧ o.pp < n ∧ 0 ≤ o.dp ∧ o.dp < n ∧ 0 ≤ o.pf ∧ o.pf ≤ o.pt ∧ o.pt ≤ 1000000 ∧ 0 ≤ o.df ∧ o.df ≤ o.dt ∧ o.dt ≤ 1000000 ∧ 0 ≤ o.ps ∧ o.ps ≤ 1000000 ∧ 0 ≤ o.ds ∧ o.ds ≤ 1000000 := of_decide_eq_true h
theorem drvE_p {n : Int} {d : Drv} (h : (drvE n d == 0) = true) : 1 ≤ d.id ∧ d.id ≤ 1000000 ∧ 1 ≤ d.room ∧ d.room ≤ 1000 ∧ 0 ≤ d.home ∧ d.home < n ∧ 0 ≤ d.frm ∧ d.frm ≤ d.till ∧ d.till ≤ 1000000 := by
  have h' := eq_of_beq h
  unfold drvE at h'
  split at h'
  · split at h'
    · split at h'
      · split at h'
        · omega
        · cases h'
      · cases h'
    · cases h'
  · cases h'
theorem atI_find {α : Type} (p : α → Bool) : ∀ (l : List α) (k : Nat), (l.find? p = none ∧ atI p l k = -1) ∨ ∃ (i : Nat) (o : α), l.find? p = some o ∧ atI p l k = ((k + i : Nat) : Int) ∧ l[i]? = some o
  | [], k => .inl ⟨rfl, rfl⟩
  | a :: r, k => by
    cases h : p a
    · rcases atI_find p r (k + 1) with ⟨h1, h2⟩ | ⟨i, o, h1, h2, h3⟩
      · exact .inl ⟨by simp [List.find?_cons, h, h1], by simp [atI, h, h2]⟩
      · exact .inr ⟨i + 1, o, by simp [List.find?_cons, h, h1], by simp [atI, h, h2]; omega, by simpa using h3⟩
    · exact .inr ⟨0, a, by simp [List.find?_cons, h], by simp [atI, h], by simp⟩
theorem getD_time (n : Int) (l : List Int) (a b : Int) : (timeM n l a b).getD 0 = wayM n l a b := rfl

/-- A route's visits, or what is wrong at which stop. -/
inductive DR where
  | ok (out : List Vis)
  | bad (f : Flt)
def loadO (s : Stp) (o : Ord) (load : Int) : Int := if s.drop then load - o.size else load + o.size
def driveGo (n : Int) (l : List Int) (d : Drv) (os : List Ord) : List Stp → List Stp → Int → Int → Int → List Vis → DR
  | A, [], now, at_, load, out => if load > 0 then .bad ⟨A.length, 18⟩ else .ok out
  | A, s :: B, now, at_, load, out =>
    if wrongE os A s = 0 then
      if loadO s ((findO os s.ord).getD zO) load > d.room then .bad ⟨A.length, 14⟩ else
      match srvO n l at_ now (siteO ((findO os s.ord).getD zO) s.drop) d.till with
      | none => .bad ⟨A.length, 15⟩
      | some be => driveGo n l d os (A ++ [s]) B be.2 (siteO ((findO os s.ord).getD zO) s.drop).place (loadO s ((findO os s.ord).getD zO) load) (out ++ [⟨s.ord, s.drop, now + wayM n l at_ (siteO ((findO os s.ord).getD zO) s.drop).place, be.1, be.2, loadO s ((findO os s.ord).getD zO) load⟩])
    else .bad ⟨A.length, wrongE os A s⟩
def rDR : DR → AV
  | .ok _ => .tup [.c (.ref 0), .agg [iC 0, iC 0]]
  | .bad f => .tup [.c (.ref 0), .agg [iC f.at_, iC f.why]]
def hDR : DR → List Buf
  | .ok out => [.row true 6 (rV out)]
  | .bad f => [.row true 6 []]
def DR.outs : DR → List Vis | .ok out => out | .bad _ => []
def DR.at_ : DR → Int | .ok _ => 0 | .bad f => f.at_
def DR.why : DR → Int | .ok _ => 0 | .bad f => f.why
theorem rDR_eq (r : DR) : rDR r = .tup [.c (.ref 0), .agg [iC r.at_, iC r.why]] := by cases r <;> rfl
theorem hDR_eq (r : DR) : hDR r = [.row true 6 (rV r.outs)] := by cases r <;> rfl
def drvPre (n : Int) (d : Drv) (os : List Ord) : Bool := knownO n os && (drvE n d == 0)

theorem timed_loop {n : Int} {l : List Int} (hm : mapOK n l = true) {d : Drv} {os : List Ord} (hp : drvPre n d os = true) (ho : os.length ≤ LIM) {stops : List Stp} (hs : stops.length ≤ SM) : ∀ (B A : List Stp) (now a load : Int) (out : List Vis), stops = A ++ B → 0 ≤ now → now ≤ 1000000 → -1000 * (A.length : Int) ≤ load → load ≤ 1000 * (A.length : Int) → out.length = A.length →
    Goes C_timed (rDR (driveGo n l d os A B now a load out)) (hDR (driveGo n l d os A B now a load out)) (timed_j0 n l d os stops now a load A.length (rV out)) := by
  intro B
  have hkn := (Bool.and_eq_true_iff.1 hp).1
  have hdr := drvE_p (Bool.and_eq_true_iff.1 hp).2
  induction B with
  | nil =>
    intro A now a load out h h1 h2 h3 h4 h5
    rw [List.append_nil] at h; subst h
    apply timed_s0
    simp only [timed_t0, bnd_some', bnd_none', bnd_map', ite_true', ite_false', sel_true', sel_false', optK_some, optK_none, getE_rI, len_rI, szL_rI, getE_rO, len_rO, szL_rO, getE_rD, len_rD, szL_rD, getE_rS, len_rS, szL_rS, getE_rV, len_rV, szL_rV, getE_rR, len_rR, szL_rR, szCk_rI, szCk_rO, szCk_rD, szCk_rS, szCk_rV, ckR_rI, ckR_rO, ckR_rS, ckR_rV, take_rO, take_rS, gO_0, gO_1, gO_2, gO_3, gO_4, gO_5, gO_6, gO_7, gO_8, gO_9, gD_0, gD_1, gD_2, gD_3, gD_4, gD_5, gS_0, gS_1, gV_0, gV_1, gV_2, gV_3, gV_4, gV_5, gW_0, gW_1, gSi_0, gSi_1, gSi_2, gSi_3, gSp_0, gSp_1, gSp_2, gSp_3, gF_0, gF_1, gR_0, gR_1, gR_2, cInt_I, Option.map_some, Int.toNat_natCast, Int.ofNat_lt, Int.natCast_nonneg, decide_true, decide_false, and_self, List.length_append, List.length_cons, List.length_nil, Nat.zero_add, Nat.add_zero, Bool.true_or, Bool.false_or, Bool.true_and, Bool.false_and, aInt_eq, aBool_eq]
    by_cases hl : load > 0 <;> simp [hl, driveGo, rDR, hDR]
  | cons s B ih =>
    intro A now a load out h h1 h2 h3 h4 h5
    obtain ⟨hlt, hk, h2'⟩ := at_split h
    have hLIM : LIM = 9223372036854775807 := rfl
    have hSM : SM = 1048576 := rfl
    have hw := wrap_nat (n := A.length) (by omega)
    have htake : stops.take A.length = A := by rw [h]; simp
    have hle : A.length ≤ stops.length := by omega
    have hfit : fitsB (out.length + 1) 48 = true := fits_of (by omega) (by omega)
    apply timed_s0
    simp only [timed_t0, bnd_some', bnd_none', bnd_map', ite_true', ite_false', sel_true', sel_false', optK_some, optK_none, getE_rI, len_rI, szL_rI, getE_rO, len_rO, szL_rO, getE_rD, len_rD, szL_rD, getE_rS, len_rS, szL_rS, getE_rV, len_rV, szL_rV, getE_rR, len_rR, szL_rR, szCk_rI, szCk_rO, szCk_rD, szCk_rS, szCk_rV, ckR_rI, ckR_rO, ckR_rS, ckR_rV, take_rO, take_rS, gO_0, gO_1, gO_2, gO_3, gO_4, gO_5, gO_6, gO_7, gO_8, gO_9, gD_0, gD_1, gD_2, gD_3, gD_4, gD_5, gS_0, gS_1, gV_0, gV_1, gV_2, gV_3, gV_4, gV_5, gW_0, gW_1, gSi_0, gSi_1, gSi_2, gSi_3, gSp_0, gSp_1, gSp_2, gSp_3, gF_0, gF_1, gR_0, gR_1, gR_2, cInt_I, Option.map_some, Int.toNat_natCast, Int.ofNat_lt, Int.natCast_nonneg, decide_true, decide_false, and_self, List.length_append, List.length_cons, List.length_nil, Nat.zero_add, Nat.add_zero, Bool.true_or, Bool.false_or, Bool.true_and, Bool.false_and, aInt_eq, aBool_eq, hlt, hk, hw, hle, htake, dO_rO ho, dS_rS (show A.length ≤ LIM by omega), dM_rI hm, stp_eta, getD_time]
    by_cases hwr : wrongE os A s = 0
    · have hbne : (wrongE os A s != 0) = false := by simp [hwr]
      obtain ⟨o, hfo⟩ : ∃ o, findO os s.ord = some o := by
        cases hf : findO os s.ord with
        | none => simp [wrongE, hf] at hwr
        | some o => exact ⟨o, rfl⟩
      have hoo := okO_p (knownO_find hkn hfo)
      have hv : ∀ v : Vis, rV out ++ [[iC v.ord, bC v.drop, iC v.arr, iC v.beg, iC v.lev, iC v.load]] = rV (out ++ [v]) := rV_snoc out
      simp only [hbne, ite_false', hfo, Option.getD_some, List.length_set, List.length_replicate, hfit]
      cases hd : s.drop
      · have hlo : loadO s o load = load + o.size := by simp [loadO, hd]
        have hsi : siteO o false = ⟨o.pp, o.pf, o.pt, o.ps⟩ := rfl
        have hwl : IntKind.wrap .i64 (load + o.size) = load + o.size := wrap_in (by omega) (by omega)
        have hy := wayM_le hm a o.pp
        have hww : IntKind.wrap .i64 (now + wayM n l a o.pp) = now + wayM n l a o.pp := wrap_in (by omega) (by omega)
        simp only [ite_false', ite_true', hwl, hww]
        by_cases hroom : load + o.size > d.room
        · simp [hroom, driveGo, hwr, hfo, hlo, rDR, hDR]
        · simp only [hroom, decide_false, ite_false']
          cases hb : beginW o.pf o.pt (now + wayM n l a o.pp) with
          | none =>
            have hsv : srvO n l a now ⟨o.pp, o.pf, o.pt, o.ps⟩ d.till = none := by simp [srvO, hb]
            simp [driveGo, hwr, hfo, hlo, hd, hsi, hsv, hroom, rDR, hDR]
          | some g =>
            have hg := beginW_le hb
            have hwg : IntKind.wrap .i64 (g + o.ps) = g + o.ps := wrap_in (by omega) (by omega)
            simp only [Option.isSome_some, Bool.not_true, ite_false', Option.getD_some, hwg]
            by_cases hu : g + o.ps > d.till
            · have hsv : srvO n l a now ⟨o.pp, o.pf, o.pt, o.ps⟩ d.till = none := by simp [srvO, hb, hu]
              simp [driveGo, hwr, hfo, hlo, hd, hsi, hsv, hroom, hu, rDR, hDR]
            · have hsv : srvO n l a now ⟨o.pp, o.pf, o.pt, o.ps⟩ d.till = some (g, g + o.ps) := by simp [srvO, hb, hu]
              have := ih (A ++ [s]) (g + o.ps) o.pp (load + o.size) (out ++ [⟨s.ord, false, now + wayM n l a o.pp, g, g + o.ps, load + o.size⟩]) h2' (by omega) (by omega) (by simp; omega) (by simp; omega) (by simp [h5])
              simp only [hu, decide_false, ite_false', ite_true', goesO_some]
              have hgo : driveGo n l d os A (s :: B) now a load out = driveGo n l d os (A ++ [s]) B (g + o.ps) o.pp (load + o.size) (out ++ [⟨s.ord, false, now + wayM n l a o.pp, g, g + o.ps, load + o.size⟩]) := by
                simp only [driveGo, hwr, hfo, hlo, hd, hsi, hsv, hroom, if_true, if_false, Option.getD_some]
              rw [hgo]
              rw [List.length_append, List.length_cons, List.length_nil, Nat.zero_add, ← hv] at this
              exact this
      · have hlo : loadO s o load = load - o.size := by simp [loadO, hd]
        have hsi : siteO o true = ⟨o.dp, o.df, o.dt, o.ds⟩ := rfl
        have hwl : IntKind.wrap .i64 (load - o.size) = load - o.size := wrap_in (by omega) (by omega)
        have hy := wayM_le hm a o.dp
        have hww : IntKind.wrap .i64 (now + wayM n l a o.dp) = now + wayM n l a o.dp := wrap_in (by omega) (by omega)
        simp only [ite_false', ite_true', hwl, hww]
        by_cases hroom : load - o.size > d.room
        · simp [hroom, driveGo, hwr, hfo, hlo, rDR, hDR]
        · simp only [hroom, decide_false, ite_false']
          cases hb : beginW o.df o.dt (now + wayM n l a o.dp) with
          | none =>
            have hsv : srvO n l a now ⟨o.dp, o.df, o.dt, o.ds⟩ d.till = none := by simp [srvO, hb]
            simp [driveGo, hwr, hfo, hlo, hd, hsi, hsv, hroom, rDR, hDR]
          | some g =>
            have hg := beginW_le hb
            have hwg : IntKind.wrap .i64 (g + o.ds) = g + o.ds := wrap_in (by omega) (by omega)
            simp only [Option.isSome_some, Bool.not_true, ite_false', Option.getD_some, hwg]
            by_cases hu : g + o.ds > d.till
            · have hsv : srvO n l a now ⟨o.dp, o.df, o.dt, o.ds⟩ d.till = none := by simp [srvO, hb, hu]
              simp [driveGo, hwr, hfo, hlo, hd, hsi, hsv, hroom, hu, rDR, hDR]
            · have hsv : srvO n l a now ⟨o.dp, o.df, o.dt, o.ds⟩ d.till = some (g, g + o.ds) := by simp [srvO, hb, hu]
              have := ih (A ++ [s]) (g + o.ds) o.dp (load - o.size) (out ++ [⟨s.ord, true, now + wayM n l a o.dp, g, g + o.ds, load - o.size⟩]) h2' (by omega) (by omega) (by simp; omega) (by simp; omega) (by simp [h5])
              simp only [hu, decide_false, ite_false', ite_true', goesO_some]
              have hgo : driveGo n l d os A (s :: B) now a load out = driveGo n l d os (A ++ [s]) B (g + o.ds) o.dp (load - o.size) (out ++ [⟨s.ord, true, now + wayM n l a o.dp, g, g + o.ds, load - o.size⟩]) := by
                simp only [driveGo, hwr, hfo, hlo, hd, hsi, hsv, hroom, if_true, if_false, Option.getD_some]
              rw [hgo]
              rw [List.length_append, List.length_cons, List.length_nil, Nat.zero_add, ← hv] at this
              exact this
    · have hbne : (wrongE os A s != 0) = true := by simp [hwr]
      simp [hbne, driveGo, hwr, rDR, hDR]
theorem timed_ok {n : Int} {l : List Int} (hm : mapOK n l = true) {d : Drv} {os : List Ord} (hp : drvPre n d os = true) (ho : os.length ≤ LIM) {stops : List Stp} (hs : stops.length ≤ SM) :
    Contract Try.prog 33 [.c (.rp false [.v (.int .i64 n), .ro false (rI l)] 0), .agg (cD d), .c (.ro false (rO os)), .c (.ro false (rS stops))] [] (rDR (driveGo n l d os [] stops d.frm d.home 0 [])) (hDR (driveGo n l d os [] stops d.frm d.home 0 [])) := by
  have hdr := drvE_p (Bool.and_eq_true_iff.1 hp).2
  refine timed_c n l d os stops ?_
  have := timed_loop hm hp ho hs stops [] d.frm d.home 0 [] rfl (by omega) (by omega) (by simp) (by simp) rfl
  simpa [timed_te, rV] using this
noncomputable def timed_G (G : GT) : GT := gAdd 33 (fun a H => match a, H with | [.c (.rp false [.v (.int .i64 n), .ro false es] 0), .agg cs, .c (.ro false os), .c (.ro false ss)], [] => bnd (dM n es) fun l => bnd (uD cs) fun d => bnd (dO os) fun os => bnd (dS ss) fun ss => (match drvPre n d os && smS ss with | true => some (driveGo n l d os [] ss d.frm d.home 0 []) | false => none) | _, _ => none) (fun r K => K (.tup [.c (.ref 0), .agg [iC r.at_, iC r.why]]) [.row true 6 (rV r.outs)]) G
theorem timed_g {G : GT} (h : GoodG Try.prog G) : GoodG Try.prog (timed_G G) := by
  refine GoodG.add (fun a H p hp K out hk => ?_) h
  split at hp
  · obtain ⟨l, h1, hp⟩ := bnd_some hp
    obtain ⟨d, h2, hp⟩ := bnd_some hp
    obtain ⟨os, h3, hp⟩ := bnd_some hp
    obtain ⟨ss, h4, hp⟩ := bnd_some hp
    split at hp
    · rename_i hpre
      cases hp
      obtain ⟨rfl, h5⟩ := dM_inv h1
      cases uD_inv _ _ h2
      obtain ⟨rfl, h6⟩ := dO_inv h3
      obtain ⟨rfl, h7⟩ := dS_inv h4
      rw [Bool.and_eq_true] at hpre
      refine ⟨_, _, timed_ok h5 hpre.1 h6 (of_decide_eq_true hpre.2), ?_⟩
      rw [rDR_eq, hDR_eq]; exact hk
    · cases hp
  · cases hp
end Go.Proofs.Ytdognggfplnkiaa
