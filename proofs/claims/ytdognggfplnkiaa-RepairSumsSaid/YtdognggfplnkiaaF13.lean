/-
  Functions of the program on symbolic arguments: their pieces as trees (kernel), their contracts.
-/
import Derived.Test.YtdognggfplnkiaaM10
namespace Go.Proofs.Ytdognggfplnkiaa
open Go.AM
set_option linter.unusedVariables false
set_option linter.unusedSimpArgs false
/-! dray/route.Fit -/
noncomputable def C_fit : Ctx := { P := Try.prog, G := ddriver_H (known_G (gNil)), md := fun _ => [], live := liveAt [], cuts := [], follow := false, fn := Try.f56, p := 0 }
theorem fit_hG : GoodG Try.prog C_fit.G := ddriver_hg (known_g (GoodG.nil))
noncomputable def fit_te (n : Int) (l : List Int) (d : Drv) (os : List Ord) (stops : List Stp) : Option Out := bnd (bnd (uD [AC.v (Go.Value.int Go.IntKind.i64 (Drv.id d)), AC.v (Go.Value.int Go.IntKind.i64 (Drv.room d)), AC.v (Go.Value.int Go.IntKind.i64 (Drv.home d)), AC.v (Go.Value.int Go.IntKind.i64 (Drv.frm d)), AC.v (Go.Value.int Go.IntKind.i64 (Drv.till d)), AC.v (Go.Value.bool (Drv.ret d))]) fun d =>   match Go.Proofs.Ytdognggfplnkiaa.nOK n with   | Bool.true => Option.some (n, d)   | Bool.false => Option.none) fun p5 => ite' (Go.Proofs.Ytdognggfplnkiaa.drvE (Prod.fst p5) (Prod.snd p5) == 0) (bnd (bnd (dO (rO os)) fun os =>   match Go.Proofs.Ytdognggfplnkiaa.nOK n with   | Bool.true => Option.some (n, rI l, os)   | Bool.false => Option.none) fun p6 => ite' (Go.Proofs.Ytdognggfplnkiaa.knownO (Prod.fst p6) (Prod.snd (Prod.snd p6))) (some (.ret (.c (.v (.bool (decide ((↑(List.length (rS stops)) : Int) ≤ 80))))) [])) (some (.ret (.c (.v (.bool false))) []))) (some (.ret (.c (.v (.bool false))) []))
theorem fit_e (n : Int) (l : List Int) (d : Drv) (os : List Ord) (stops : List Stp) : run C_fit 100000 true (bodyAt Try.f56) (startS (argsE [.c (.rp false [.v (.int .i64 n), .ro false (rI l)] 0), .agg (cD d), .c (.ro false (rO os)), .c (.ro false (rS stops))] 0) []) = fit_te n l d os stops := by kernel_rfl
theorem fit_c (n : Int) (l : List Int) (d : Drv) (os : List Ord) (stops : List Stp) {r : AV} {H' : List Buf} (h : GoesO C_fit r H' (fit_te n l d os stops)) : Contract Try.prog 56 [.c (.rp false [.v (.int .i64 n), .ro false (rI l)] 0), .agg (cD d), .c (.ro false (rO os)), .c (.ro false (rS stops))] [] r H' := let ⟨_, e, g⟩ := h; Contract.of_goes rfl wf fit_hG Try.func56 rfl rfl ((fit_e n l d os stops).trans e) g
end Go.Proofs.Ytdognggfplnkiaa
