/-
  Functions of the program on symbolic arguments: their pieces as trees (kernel), their contracts.
-/
import Derived.Test.YtdognggfplnkiaaM13
namespace Go.Proofs.Ytdognggfplnkiaa
open Go.AM
set_option linter.unusedVariables false
set_option linter.unusedSimpArgs false
/-! dray/route.Drive -/
noncomputable def C_rdrive : Ctx := { P := Try.prog, G := fit_G (timed_G (gNil)), md := fun _ => [], live := liveAt [], cuts := [], follow := false, fn := Try.f34, p := 0 }
theorem rdrive_hG : GoodG Try.prog C_rdrive.G := fit_g (timed_g (GoodG.nil))
noncomputable def rdrive_te (n : Int) (l : List Int) (d : Drv) (os : List Ord) (stops : List Stp) : Option Out := bnd (bnd (Go.Proofs.Ytdognggfplnkiaa.dM n (rI l)) fun l => bnd (uD [AC.v (Go.Value.int Go.IntKind.i64 (Drv.id d)), AC.v (Go.Value.int Go.IntKind.i64 (Drv.room d)), AC.v (Go.Value.int Go.IntKind.i64 (Drv.home d)), AC.v (Go.Value.int Go.IntKind.i64 (Drv.frm d)), AC.v (Go.Value.int Go.IntKind.i64 (Drv.till d)), AC.v (Go.Value.bool (Drv.ret d))]) fun d => bnd (dO (rO os)) fun os => bnd (dS (rS stops)) fun ss => Option.some (Go.Proofs.Ytdognggfplnkiaa.fitP n d os ss)) fun b5 => ite' (!b5) (some (.ret (.tup [.c (.ref 0), .agg [.v (.int .i64 0), .v (.int .i64 1)]]) [.row true 6 []])) (bnd (bnd (Go.Proofs.Ytdognggfplnkiaa.dM n (rI l)) fun l =>   bnd (uD [AC.v (Go.Value.int Go.IntKind.i64 (Drv.id d)), AC.v (Go.Value.int Go.IntKind.i64 (Drv.room d)), AC.v (Go.Value.int Go.IntKind.i64 (Drv.home d)), AC.v (Go.Value.int Go.IntKind.i64 (Drv.frm d)), AC.v (Go.Value.int Go.IntKind.i64 (Drv.till d)), AC.v (Go.Value.bool (Drv.ret d))]) fun d =>     bnd (dO (rO os)) fun os =>       bnd (dS (rS stops)) fun ss =>         match Go.Proofs.Ytdognggfplnkiaa.drvPre n d os && smS ss with         | Bool.true => Option.some (Go.Proofs.Ytdognggfplnkiaa.driveGo n l d os [] ss (Drv.frm d) (Drv.home d) 0 [])         | Bool.false => Option.none) fun p6 => some (.ret (.tup [.c (.ref 0), .agg [.v (.int .i64 (Go.Proofs.Ytdognggfplnkiaa.DR.at_ p6)), .v (.int .i64 (Go.Proofs.Ytdognggfplnkiaa.DR.why p6))]]) [.row true 6 (rV (Go.Proofs.Ytdognggfplnkiaa.DR.outs p6))]))
theorem rdrive_e (n : Int) (l : List Int) (d : Drv) (os : List Ord) (stops : List Stp) : run C_rdrive 100000 true (bodyAt Try.f34) (startS (argsE [.c (.rp false [.v (.int .i64 n), .ro false (rI l)] 0), .agg (cD d), .c (.ro false (rO os)), .c (.ro false (rS stops))] 0) []) = rdrive_te n l d os stops := by kernel_rfl
theorem rdrive_c (n : Int) (l : List Int) (d : Drv) (os : List Ord) (stops : List Stp) {r : AV} {H' : List Buf} (h : GoesO C_rdrive r H' (rdrive_te n l d os stops)) : Contract Try.prog 34 [.c (.rp false [.v (.int .i64 n), .ro false (rI l)] 0), .agg (cD d), .c (.ro false (rO os)), .c (.ro false (rS stops))] [] r H' := let ⟨_, e, g⟩ := h; Contract.of_goes rfl wf rdrive_hG Try.func34 rfl rfl ((rdrive_e n l d os stops).trans e) g
end Go.Proofs.Ytdognggfplnkiaa
