/-
  Together and Well, with a map or with none.
-/
import Derived.Test.YtdognggfplnkiaaF7
namespace Go.Proofs.Ytdognggfplnkiaa
open Go.AM
set_option linter.unusedVariables false
set_option linter.unusedSimpArgs false

theorem togethern_ok (e1 e2 e3 : List (List AC)) : Contract Try.prog 31 [.c (.v (.pointer .none)), .c (.ro false e1), .c (.ro false e2), .c (.ro false e3)] [] (aBool false) [] :=
  togethern_c e1 e2 e3 (by simp [togethern_te])
theorem welln_ok (e1 e2 e3 : List (List AC)) : Contract Try.prog 44 [.c (.v (.pointer .none)), .c (.ro false e1), .c (.ro false e2), .c (.ro false e3)] [] (aBool false) [] :=
  welln_c e1 e2 e3 (by simp [welln_te])
noncomputable def together_G (G : GT) : GT := gAdd 31 (fun a H => match a, H with
  | [.c (.rp false [.v (.int .i64 n), .ro false es] 0), .c (.ro false ds), .c (.ro false os), .c (.ro false p)], [] => bnd (dM n es) fun l => bnd (dD ds) fun ds => bnd (dO os) fun os => bnd (dR p) fun p => some (togetherP n ds os p)
  | [.c (.v (.pointer .none)), .c (.ro false ds), .c (.ro false os), .c (.ro false p)], [] => some false
  | _, _ => none) (fun b K => K (aBool b) []) G
theorem together_g {G : GT} (h : GoodG Try.prog G) : GoodG Try.prog (together_G G) := by
  refine GoodG.add (fun a H p hp K out hk => ?_) h
  split at hp
  · obtain ⟨l, h1, hp⟩ := bnd_some hp
    obtain ⟨ds, h2, hp⟩ := bnd_some hp
    obtain ⟨os, h3, hp⟩ := bnd_some hp
    obtain ⟨pl, h4, hp⟩ := bnd_some hp
    cases hp
    obtain ⟨rfl, h5⟩ := dM_inv h1
    obtain ⟨rfl, h6⟩ := dD_inv h2
    obtain ⟨rfl, h7⟩ := dO_inv h3
    obtain ⟨rfl, h8⟩ := dR_inv h4
    exact ⟨_, _, together_ok h5 h6 h7 h8, hk⟩
  · cases hp
    exact ⟨_, _, togethern_ok _ _ _, hk⟩
  · cases hp
noncomputable def well_G (G : GT) : GT := gAdd 44 (fun a H => match a, H with
  | [.c (.rp false [.v (.int .i64 n), .ro false es] 0), .c (.ro false ds), .c (.ro false os), .c (.ro false p)], [] => bnd (dI es) fun l => bnd (dD ds) fun ds => bnd (dO os) fun os => bnd (dR p) fun p => some (togetherP n ds os p)
  | [.c (.v (.pointer .none)), .c (.ro false ds), .c (.ro false os), .c (.ro false p)], [] => some false
  | _, _ => none) (fun b K => K (aBool b) []) G
theorem well_g {G : GT} (h : GoodG Try.prog G) : GoodG Try.prog (well_G G) := by
  refine GoodG.add (fun a H p hp K out hk => ?_) h
  split at hp
  · obtain ⟨l, h1, hp⟩ := bnd_some hp
    obtain ⟨ds, h2, hp⟩ := bnd_some hp
    obtain ⟨os, h3, hp⟩ := bnd_some hp
    obtain ⟨pl, h4, hp⟩ := bnd_some hp
    cases hp
    obtain ⟨rfl, h5⟩ := dI_inv h1
    obtain ⟨rfl, h6⟩ := dD_inv h2
    obtain ⟨rfl, h7⟩ := dO_inv h3
    obtain ⟨rfl, h8⟩ := dR_inv h4
    exact ⟨_, _, well_ok _ _ h6 h7 h8, hk⟩
  · cases hp
    exact ⟨_, _, welln_ok _ _ _, hk⟩
  · cases hp
end Go.Proofs.Ytdognggfplnkiaa
