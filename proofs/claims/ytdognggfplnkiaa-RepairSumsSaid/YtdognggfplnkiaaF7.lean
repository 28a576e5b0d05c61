/-
  Functions of the program on symbolic arguments: their pieces as trees (kernel), their contracts.
-/
import Derived.Test.YtdognggfplnkiaaM61
namespace Go.Proofs.Ytdognggfplnkiaa
open Go.AM
set_option linter.unusedVariables false
set_option linter.unusedSimpArgs false
/-! dray/cert.Together -/
noncomputable def C_togethern : Ctx := { P := Try.prog, G := gNil, md := fun _ => [], live := liveAt [(4, [(0, none), (1, some 6), (31, some 6), (32, none), (33, none)])], cuts := [], follow := false, fn := Try.f31, p := 0 }
theorem togethern_hG : GoodG Try.prog C_togethern.G := GoodG.nil
noncomputable def togethern_te (e1 e2 e3 : List (List AC)) : Option Out := some (.ret (.c (.v (.bool false))) [])
theorem togethern_e (e1 e2 e3 : List (List AC)) : run C_togethern 100000 true (bodyAt Try.f31) (startS (argsE [.c (.v (.pointer .none)), .c (.ro false e1), .c (.ro false e2), .c (.ro false e3)] 0) []) = togethern_te e1 e2 e3 := by kernel_rfl
theorem togethern_c (e1 e2 e3 : List (List AC)) {r : AV} {H' : List Buf} (h : GoesO C_togethern r H' (togethern_te e1 e2 e3)) : Contract Try.prog 31 [.c (.v (.pointer .none)), .c (.ro false e1), .c (.ro false e2), .c (.ro false e3)] [] r H' := let ⟨_, e, g⟩ := h; Contract.of_goes rfl wf togethern_hG Try.func31 rfl rfl ((togethern_e e1 e2 e3).trans e) g
/-! dray/drayref9.Well -/
noncomputable def C_welln : Ctx := { P := Try.prog, G := gNil, md := fun _ => [], live := liveAt [(4, [(0, none), (1, some 6), (9, none)]), (9, [(0, none), (1, some 6), (9, none), (10, none)])], cuts := [], follow := false, fn := Try.f44, p := 0 }
theorem welln_hG : GoodG Try.prog C_welln.G := GoodG.nil
noncomputable def welln_te (e1 e2 e3 : List (List AC)) : Option Out := some (.ret (.c (.v (.bool false))) [])
theorem welln_e (e1 e2 e3 : List (List AC)) : run C_welln 100000 true (bodyAt Try.f44) (startS (argsE [.c (.v (.pointer .none)), .c (.ro false e1), .c (.ro false e2), .c (.ro false e3)] 0) []) = welln_te e1 e2 e3 := by kernel_rfl
theorem welln_c (e1 e2 e3 : List (List AC)) {r : AV} {H' : List Buf} (h : GoesO C_welln r H' (welln_te e1 e2 e3)) : Contract Try.prog 44 [.c (.v (.pointer .none)), .c (.ro false e1), .c (.ro false e2), .c (.ro false e3)] [] r H' := let ⟨_, e, g⟩ := h; Contract.of_goes rfl wf welln_hG Try.func44 rfl rfl ((welln_e e1 e2 e3).trans e) g
end Go.Proofs.Ytdognggfplnkiaa
