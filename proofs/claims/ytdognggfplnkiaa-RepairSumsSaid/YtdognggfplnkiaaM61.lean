/-
  Contract: the reference's route driven (drayref6.Drive).
-/
import Derived.Test.YtdognggfplnkiaaM6
namespace Go.Proofs.Ytdognggfplnkiaa
open Go.AM
set_option linter.unusedVariables false
set_option linter.unusedSimpArgs false

def driveP (n : Int) (l : List Int) (d : Drv) (os : List Ord) (stops : List Stp) : DR := if drvPre n d os = true ∧ stops.length ≤ 80 then driveGo n l d os [] stops d.frm d.home 0 [] else .bad ⟨0, 1⟩
theorem drive_loop {n : Int} {l : List Int} (hm : mapOK n l = true) {d : Drv} {os : List Ord} (hp : drvPre n d os = true) (ho : os.length ≤ LIM) {stops : List Stp} (hs : stops.length ≤ SM) : ∀ (B A : List Stp) (now a load : Int) (out : List Vis), stops = A ++ B → 0 ≤ now → now ≤ 1000000 → -1000 * (A.length : Int) ≤ load → load ≤ 1000 * (A.length : Int) → out.length = A.length →
    Goes C_drive (rDR (driveGo n l d os A B now a load out)) (hDR (driveGo n l d os A B now a load out)) (drive_j0 n l d os stops a now load A.length (rV out)) := by
  intro B
  have hkn := (Bool.and_eq_true_iff.1 hp).1
  have hdr := drvE_p (Bool.and_eq_true_iff.1 hp).2
  induction B with
  | nil =>
    intro A now a load out h h1 h2 h3 h4 h5
    rw [List.append_nil] at h; subst h
    apply drive_s0
    simp only [drive_t0, bnd_some', bnd_none', bnd_map', ite_true', ite_false', sel_true', sel_false', optK_some, optK_none, getE_rI, len_rI, szL_rI, getE_rO, len_rO, szL_rO, getE_rD, len_rD, szL_rD, getE_rS, len_rS, szL_rS, getE_rV, len_rV, szL_rV, getE_rR, len_rR, szL_rR, szCk_rI, szCk_rO, szCk_rD, szCk_rS, szCk_rV, ckR_rI, ckR_rO, ckR_rS, ckR_rV, take_rO, take_rS, gO_0, gO_1, gO_2, gO_3, gO_4, gO_5, gO_6, gO_7, gO_8, gO_9, gD_0, gD_1, gD_2, gD_3, gD_4, gD_5, gS_0, gS_1, gV_0, gV_1, gV_2, gV_3, gV_4, gV_5, gW_0, gW_1, gSi_0, gSi_1, gSi_2, gSi_3, gSp_0, gSp_1, gSp_2, gSp_3, gF_0, gF_1, gR_0, gR_1, gR_2, cInt_I, Option.map_some, Int.toNat_natCast, Int.ofNat_lt, Int.natCast_nonneg, decide_true, decide_false, and_self, List.length_append, List.length_cons, List.length_nil, Nat.zero_add, Nat.add_zero, Bool.true_or, Bool.false_or, Bool.true_and, Bool.false_and, aInt_eq, aBool_eq]
    by_cases hl : load > 0 <;> simp [hl, driveGo, rDR, hDR]
  | cons s B ih =>
    intro A now a load out h h1 h2 h3 h4 h5
    obtain ⟨hlt, hk, h2'⟩ := at_split h
    have hLIM : LIM = 9223372036854775807 := rfl
    have hSM : SM = 1048576 := rfl
    have hw := wrap_nat (n := A.length) (by omega)
    have htake : stops.take A.length = A := by rw [h]; simp
    have hle : A.length ≤ stops.length := by omega
    have hfit : fitsB (out.length + 1) 48 = true := fits_of (by omega) (by omega)
    apply drive_s0
    simp only [drive_t0, bnd_some', bnd_none', bnd_map', ite_true', ite_false', sel_true', sel_false', optK_some, optK_none, getE_rI, len_rI, szL_rI, getE_rO, len_rO, szL_rO, getE_rD, len_rD, szL_rD, getE_rS, len_rS, szL_rS, getE_rV, len_rV, szL_rV, getE_rR, len_rR, szL_rR, szCk_rI, szCk_rO, szCk_rD, szCk_rS, szCk_rV, ckR_rI, ckR_rO, ckR_rS, ckR_rV, take_rO, take_rS, gO_0, gO_1, gO_2, gO_3, gO_4, gO_5, gO_6, gO_7, gO_8, gO_9, gD_0, gD_1, gD_2, gD_3, gD_4, gD_5, gS_0, gS_1, gV_0, gV_1, gV_2, gV_3, gV_4, gV_5, gW_0, gW_1, gSi_0, gSi_1, gSi_2, gSi_3, gSp_0, gSp_1, gSp_2, gSp_3, gF_0, gF_1, gR_0, gR_1, gR_2, cInt_I, Option.map_some, Int.toNat_natCast, Int.ofNat_lt, Int.natCast_nonneg, decide_true, decide_false, and_self, List.length_append, List.length_cons, List.length_nil, Nat.zero_add, Nat.add_zero, Bool.true_or, Bool.false_or, Bool.true_and, Bool.false_and, aInt_eq, aBool_eq, hlt, hk, hw, hle, htake, dO_rO ho, dS_rS (show A.length ≤ LIM by omega), dM_rI hm, stp_eta, getD_time]
    rcases atI_find (fun o => o.id == s.ord) os 0 with ⟨hf, hi⟩ | ⟨i, o, hfo, hi, hio⟩
    · have hf' : findO os s.ord = none := hf
      simp [hi, driveGo, wrongE, hf', rDR, hDR]
    · replace hfo : findO os s.ord = some o := hfo
      rw [Nat.zero_add] at hi
      have hoo := okO_p (knownO_find hkn hfo)
      have hv : ∀ v : Vis, rV out ++ [[iC v.ord, bC v.drop, iC v.arr, iC v.beg, iC v.lev, iC v.load]] = rV (out ++ [v]) := rV_snoc out
      have hneg : ¬ ((i : Int) < 0) := by omega
      simp only [hi, hneg, decide_false, ite_false']
      cases hh : hasS A s
      · cases hd : s.drop
        · have hwr : wrongE os A s = 0 := by simp [wrongE, hfo, hh, hd]
          have hlo : loadO s o load = load + o.size := by simp [loadO, hd]
          have hsi : siteO o false = ⟨o.pp, o.pf, o.pt, o.ps⟩ := rfl
          have hwl : IntKind.wrap .i64 (load + o.size) = load + o.size := wrap_in (by omega) (by omega)
          have hy := wayM_le hm a o.pp
          have hww : IntKind.wrap .i64 (now + wayM n l a o.pp) = now + wayM n l a o.pp := wrap_in (by omega) (by omega)
          have hpre : srvPre now ⟨o.pp, o.pf, o.pt, o.ps⟩ = true := decide_eq_true (by simp; omega)
          simp only [bnd_some', bnd_none', bnd_map', ite_true', ite_false', sel_true', sel_false', optK_some, optK_none, getE_rI, len_rI, szL_rI, getE_rO, len_rO, szL_rO, getE_rD, len_rD, szL_rD, getE_rS, len_rS, szL_rS, getE_rV, len_rV, szL_rV, getE_rR, len_rR, szL_rR, szCk_rI, szCk_rO, szCk_rD, szCk_rS, szCk_rV, ckR_rI, ckR_rO, ckR_rS, ckR_rV, take_rO, take_rS, gO_0, gO_1, gO_2, gO_3, gO_4, gO_5, gO_6, gO_7, gO_8, gO_9, gD_0, gD_1, gD_2, gD_3, gD_4, gD_5, gS_0, gS_1, gV_0, gV_1, gV_2, gV_3, gV_4, gV_5, gW_0, gW_1, gSi_0, gSi_1, gSi_2, gSi_3, gSp_0, gSp_1, gSp_2, gSp_3, gF_0, gF_1, gR_0, gR_1, gR_2, cInt_I, Option.map_some, Int.toNat_natCast, Int.ofNat_lt, Int.natCast_nonneg, decide_true, decide_false, and_self, List.length_append, List.length_cons, List.length_nil, Nat.zero_add, Nat.add_zero, Bool.true_or, Bool.false_or, Bool.true_and, Bool.false_and, aInt_eq, aBool_eq, List.length_set, List.length_replicate, hfit, hio, hwl, hww, hpre]
          by_cases hroom : load + o.size > d.room
          · simp [hroom, driveGo, hwr, hfo, hlo, rDR, hDR]
          · simp only [hroom, decide_false, ite_false']
            cases hsv : srvO n l a now ⟨o.pp, o.pf, o.pt, o.ps⟩ d.till with
            | none => simp [driveGo, hwr, hfo, hlo, hd, hsi, hsv, hroom, rDR, hDR]
            | some be =>
              have hbe : 0 ≤ be.2 ∧ be.2 ≤ d.till := by
                unfold srvO at hsv
                split at hsv
                · cases hsv
                · rename_i g hb
                  have hg := beginW_le hb
                  split at hsv
                  · cases hsv
                  · rename_i hnu
                    cases hsv
                    dsimp only at hg hnu ⊢
                    omega
              have := ih (A ++ [s]) be.2 o.pp (load + o.size) (out ++ [⟨s.ord, false, now + wayM n l a o.pp, be.1, be.2, load + o.size⟩]) h2' (by omega) (by omega) (by simp; omega) (by simp; omega) (by simp [h5])
              have hgo : driveGo n l d os A (s :: B) now a load out = driveGo n l d os (A ++ [s]) B be.2 o.pp (load + o.size) (out ++ [⟨s.ord, false, now + wayM n l a o.pp, be.1, be.2, load + o.size⟩]) := by
                simp only [driveGo, hwr, hfo, hlo, hd, hsi, hsv, hroom, if_true, if_false, Option.getD_some]
              rw [hgo]
              simp only [Option.isSome_some, Bool.not_true, ite_false', ite_true', Option.getD_some, goesO_some]
              rw [List.length_append, List.length_cons, List.length_nil, Nat.zero_add, ← hv] at this
              exact this
        · cases hh2 : hasS A ⟨s.ord, false⟩
          · have hwr : wrongE os A s = 17 := by simp [wrongE, hfo, hh, hd, hh2]
            simp [hh2, driveGo, hwr, rDR, hDR]
          · have hwr : wrongE os A s = 0 := by simp [wrongE, hfo, hh, hd, hh2]
            have hlo : loadO s o load = load - o.size := by simp [loadO, hd]
            have hsi : siteO o true = ⟨o.dp, o.df, o.dt, o.ds⟩ := rfl
            have hwl : IntKind.wrap .i64 (load - o.size) = load - o.size := wrap_in (by omega) (by omega)
            have hy := wayM_le hm a o.dp
            have hww : IntKind.wrap .i64 (now + wayM n l a o.dp) = now + wayM n l a o.dp := wrap_in (by omega) (by omega)
            have hpre : srvPre now ⟨o.dp, o.df, o.dt, o.ds⟩ = true := decide_eq_true (by simp; omega)
            simp only [bnd_some', bnd_none', bnd_map', ite_true', ite_false', sel_true', sel_false', optK_some, optK_none, getE_rI, len_rI, szL_rI, getE_rO, len_rO, szL_rO, getE_rD, len_rD, szL_rD, getE_rS, len_rS, szL_rS, getE_rV, len_rV, szL_rV, getE_rR, len_rR, szL_rR, szCk_rI, szCk_rO, szCk_rD, szCk_rS, szCk_rV, ckR_rI, ckR_rO, ckR_rS, ckR_rV, take_rO, take_rS, gO_0, gO_1, gO_2, gO_3, gO_4, gO_5, gO_6, gO_7, gO_8, gO_9, gD_0, gD_1, gD_2, gD_3, gD_4, gD_5, gS_0, gS_1, gV_0, gV_1, gV_2, gV_3, gV_4, gV_5, gW_0, gW_1, gSi_0, gSi_1, gSi_2, gSi_3, gSp_0, gSp_1, gSp_2, gSp_3, gF_0, gF_1, gR_0, gR_1, gR_2, cInt_I, Option.map_some, Int.toNat_natCast, Int.ofNat_lt, Int.natCast_nonneg, decide_true, decide_false, and_self, List.length_append, List.length_cons, List.length_nil, Nat.zero_add, Nat.add_zero, Bool.true_or, Bool.false_or, Bool.true_and, Bool.false_and, aInt_eq, aBool_eq, List.length_set, List.length_replicate, hfit, hio, hwl, hww, hpre, hh2, Bool.not_true]
            by_cases hroom : load - o.size > d.room
            · simp [hroom, driveGo, hwr, hfo, hlo, rDR, hDR]
            · simp only [hroom, decide_false, ite_false']
              cases hsv : srvO n l a now ⟨o.dp, o.df, o.dt, o.ds⟩ d.till with
              | none => simp [driveGo, hwr, hfo, hlo, hd, hsi, hsv, hroom, rDR, hDR]
              | some be =>
                have hbe : 0 ≤ be.2 ∧ be.2 ≤ d.till := by
                  unfold srvO at hsv
                  split at hsv
                  · cases hsv
                  · rename_i g hb
                    have hg := beginW_le hb
                    split at hsv
                    · cases hsv
                    · rename_i hnu
                      cases hsv
                      dsimp only at hg hnu ⊢
                      omega
                have := ih (A ++ [s]) be.2 o.dp (load - o.size) (out ++ [⟨s.ord, true, now + wayM n l a o.dp, be.1, be.2, load - o.size⟩]) h2' (by omega) (by omega) (by simp; omega) (by simp; omega) (by simp [h5])
                have hgo : driveGo n l d os A (s :: B) now a load out = driveGo n l d os (A ++ [s]) B be.2 o.dp (load - o.size) (out ++ [⟨s.ord, true, now + wayM n l a o.dp, be.1, be.2, load - o.size⟩]) := by
                  simp only [driveGo, hwr, hfo, hlo, hd, hsi, hsv, hroom, if_true, if_false, Option.getD_some]
                rw [hgo]
                simp only [Option.isSome_some, Bool.not_true, ite_false', ite_true', Option.getD_some, goesO_some]
                rw [List.length_append, List.length_cons, List.length_nil, Nat.zero_add, ← hv] at this
                exact this
      · have hwr : wrongE os A s = 16 := by simp [wrongE, hfo, hh]
        simp [hh, driveGo, hwr, rDR, hDR]
theorem drive_ok {n : Int} {l : List Int} (hm : mapOK n l = true) (d : Drv) {os : List Ord} (ho : os.length ≤ LIM) {stops : List Stp} (hs : stops.length ≤ LIM) :
    Contract Try.prog 46 [.c (.rp false [.v (.int .i64 n), .ro false (rI l)] 0), .agg (cD d), .c (.ro false (rO os)), .c (.ro false (rS stops))] [] (rDR (driveP n l d os stops)) (hDR (driveP n l d os stops)) := by
  refine drive_c n l d os stops ?_
  simp only [drive_te, bnd_some', bnd_none', bnd_map', ite_true', ite_false', sel_true', sel_false', optK_some, optK_none, getE_rI, len_rI, szL_rI, getE_rO, len_rO, szL_rO, getE_rD, len_rD, szL_rD, getE_rS, len_rS, szL_rS, getE_rV, len_rV, szL_rV, getE_rR, len_rR, szL_rR, szCk_rI, szCk_rO, szCk_rD, szCk_rS, szCk_rV, ckR_rI, ckR_rO, ckR_rS, ckR_rV, take_rO, take_rS, gO_0, gO_1, gO_2, gO_3, gO_4, gO_5, gO_6, gO_7, gO_8, gO_9, gD_0, gD_1, gD_2, gD_3, gD_4, gD_5, gS_0, gS_1, gV_0, gV_1, gV_2, gV_3, gV_4, gV_5, gW_0, gW_1, gSi_0, gSi_1, gSi_2, gSi_3, gSp_0, gSp_1, gSp_2, gSp_3, gF_0, gF_1, gR_0, gR_1, gR_2, cInt_I, Option.map_some, Int.toNat_natCast, Int.ofNat_lt, Int.natCast_nonneg, decide_true, decide_false, and_self, List.length_append, List.length_cons, List.length_nil, Nat.zero_add, Nat.add_zero, Bool.true_or, Bool.false_or, Bool.true_and, Bool.false_and, aInt_eq, aBool_eq, dO_rO ho, drv_eta]
  cases he : drvE n d == 0
  · have h1 : (drvE n d != 0) = true := by simp [bne, he]
    simp [h1, driveP, drvPre, he, rDR, hDR]
  · have h1 : (drvE n d != 0) = false := by simp [bne, he]
    cases hk : knownO n os
    · simp [h1, driveP, drvPre, hk, rDR, hDR]
    · have hp : drvPre n d os = true := by simp [drvPre, hk, he]
      have hdr := drvE_p he
      simp only [h1, ite_false', Bool.not_true]
      refine goesO_dec ⟨fun h => ?_, fun h => ?_⟩
      · have : ¬ stops.length ≤ 80 := by omega
        simp [driveP, this, rDR, hDR]
      · have h' : stops.length ≤ 80 := by omega
        have := drive_loop hm hp ho (stops := stops) (by have : SM = 1048576 := rfl; omega) stops [] d.frm d.home 0 [] rfl (by omega) (by omega) (by simp) (by simp) rfl
        simpa [driveP, hp, h', rV] using this
noncomputable def drive_G (G : GT) : GT := gAdd 46 (fun a H => match a, H with | [.c (.rp false [.v (.int .i64 n), .ro false es] 0), .agg cs, .c (.ro false os), .c (.ro false ss)], [] => bnd (dM n es) fun l => bnd (uD cs) fun d => bnd (dO os) fun os => bnd (dS ss) fun ss => some (driveP n l d os ss) | _, _ => none) (fun r K => K (.tup [.c (.ref 0), .agg [iC r.at_, iC r.why]]) [.row true 6 (rV r.outs)]) G
theorem drive_g {G : GT} (h : GoodG Try.prog G) : GoodG Try.prog (drive_G G) := by
  refine GoodG.add (fun a H p hp K out hk => ?_) h
  split at hp
  · obtain ⟨l, h1, hp⟩ := bnd_some hp
    obtain ⟨d, h2, hp⟩ := bnd_some hp
    obtain ⟨os, h3, hp⟩ := bnd_some hp
    obtain ⟨ss, h4, hp⟩ := bnd_some hp
    cases hp
    obtain ⟨rfl, h5⟩ := dM_inv h1
    cases uD_inv _ _ h2
    obtain ⟨rfl, h6⟩ := dO_inv h3
    obtain ⟨rfl, h7⟩ := dS_inv h4
    refine ⟨_, _, drive_ok h5 _ h6 h7, ?_⟩
    rw [rDR_eq, hDR_eq]; exact hk
  · cases hp
end Go.Proofs.Ytdognggfplnkiaa
