/-
  Functions of the program on symbolic arguments: their pieces as trees (kernel), their contracts.
-/
import Derived.Test.YtdognggfplnkiaaM14
namespace Go.Proofs.Ytdognggfplnkiaa
open Go.AM
set_option linter.unusedVariables false
set_option linter.unusedSimpArgs false
/-! dray/route.Cost -/
noncomputable def C_rcost : Ctx := { P := Try.prog, G := rdrive_G (good_G (way_G (gNil))), md := fun _ => [], live := liveAt [], cuts := [], follow := false, fn := Try.f19, p := 0 }
theorem rcost_hG : GoodG Try.prog C_rcost.G := rdrive_g (good_g (way_g (GoodG.nil)))
noncomputable def rcost_te (n : Int) (l : List Int) (d : Drv) (os : List Ord) (stops : List Stp) : Option Out := bnd (bnd (Go.Proofs.Ytdognggfplnkiaa.dM n (rI l)) fun l => bnd (uD [AC.v (Go.Value.int Go.IntKind.i64 (Drv.id d)), AC.v (Go.Value.int Go.IntKind.i64 (Drv.room d)), AC.v (Go.Value.int Go.IntKind.i64 (Drv.home d)), AC.v (Go.Value.int Go.IntKind.i64 (Drv.frm d)), AC.v (Go.Value.int Go.IntKind.i64 (Drv.till d)), AC.v (Go.Value.bool (Drv.ret d))]) fun d => bnd (dO (rO os)) fun os => bnd (dS (rS stops)) fun ss => Option.some (Go.Proofs.Ytdognggfplnkiaa.driveP n l d os ss)) fun p5 => ite' (!Go.Proofs.Ytdognggfplnkiaa.DR.why p5 == 0) (some (.ret (.tup [.c (.v (.int .i64 0)), .c (.v (.bool false))]) [])) (bnd (bnd (Go.Proofs.Ytdognggfplnkiaa.dM n (rI l)) fun l =>   bnd (uD [AC.v (Go.Value.int Go.IntKind.i64 (Drv.id d)), AC.v (Go.Value.int Go.IntKind.i64 (Drv.room d)), AC.v (Go.Value.int Go.IntKind.i64 (Drv.home d)), AC.v (Go.Value.int Go.IntKind.i64 (Drv.frm d)), AC.v (Go.Value.int Go.IntKind.i64 (Drv.till d)), AC.v (Go.Value.bool (Drv.ret d))]) fun d =>     bnd (dO (rO os)) fun os =>       bnd (dS (rS stops)) fun ss =>         match smS ss with         | Bool.true => Option.some (n, l, d, os, ss)         | Bool.false => Option.none) fun p6 => some (.ret (.tup [.c (.v (.int .i64 (Go.Proofs.Ytdognggfplnkiaa.wayGo (Prod.fst p6) (Prod.fst (Prod.snd p6)) (Prod.fst (Prod.snd (Prod.snd (Prod.snd p6)))) (Drv.home (Prod.fst (Prod.snd (Prod.snd p6)))) (Prod.snd (Prod.snd (Prod.snd (Prod.snd p6))))))), .c (.v (.bool true))]) []))
theorem rcost_e (n : Int) (l : List Int) (d : Drv) (os : List Ord) (stops : List Stp) : run C_rcost 100000 true (bodyAt Try.f19) (startS (argsE [.c (.rp false [.v (.int .i64 n), .ro false (rI l)] 0), .agg (cD d), .c (.ro false (rO os)), .c (.ro false (rS stops))] 0) []) = rcost_te n l d os stops := by kernel_rfl
theorem rcost_c (n : Int) (l : List Int) (d : Drv) (os : List Ord) (stops : List Stp) {r : AV} {H' : List Buf} (h : GoesO C_rcost r H' (rcost_te n l d os stops)) : Contract Try.prog 19 [.c (.rp false [.v (.int .i64 n), .ro false (rI l)] 0), .agg (cD d), .c (.ro false (rO os)), .c (.ro false (rS stops))] [] r H' := let ⟨_, e, g⟩ := h; Contract.of_goes rfl wf rcost_hG Try.func19 rfl rfl ((rcost_e n l d os stops).trans e) g
end Go.Proofs.Ytdognggfplnkiaa
