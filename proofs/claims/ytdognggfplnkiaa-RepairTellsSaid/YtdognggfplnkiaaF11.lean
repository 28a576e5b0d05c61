/-
  Functions of the program on symbolic arguments: their pieces as trees (kernel), their contracts.
-/
import Derived.Test.YtdognggfplnkiaaM10
import Derived.Test.YtdognggfplnkiaaRuns2
namespace Go.Proofs.Ytdognggfplnkiaa
open Go.AM
set_option linter.unusedVariables false
set_option linter.unusedSimpArgs false
/-! dray/draylaw13.RepairTells -/
noncomputable def C_tells : Ctx := { P := Try.prog, G := maps_G (Total_G (r12Total_G (runs_G (gNil)))), md := fun _ => [], live := liveAt [], cuts := [], follow := false, fn := Try.f4, p := 0 }
theorem tells_hG : GoodG Try.prog C_tells.G := maps_g (Total_g (r12Total_g (runs_g (GoodG.nil))))
noncomputable def tells_te (n : Int) (l : List Int) (ds : List Drv) (os : List Ord) (p : List Rte) : Option Out := bnd (bnd (dI (rI l)) fun l => bnd (dD (rD ds)) fun ds => bnd (dO (rO os)) fun os => bnd (dR (rR p)) fun p => Option.some (n, l)) fun p5 => ite' (Go.Proofs.Ytdognggfplnkiaa.newE (Prod.fst p5) (Prod.snd p5) == 0) (bnd (bnd (Go.Proofs.Ytdognggfplnkiaa.dM (Prod.fst p5) (rI (Prod.snd p5))) fun l => bnd (dD (rD ds)) fun ds => bnd (dO (rO os)) fun os => bnd (dR (rR p)) fun p => Option.some (Go.Proofs.Ytdognggfplnkiaa.totP (Prod.fst p5) l ds os p)) fun p6 => bnd (bnd (Go.Proofs.Ytdognggfplnkiaa.dM (Prod.fst p5) (rI (Prod.snd p5))) fun l => bnd (dD (rD ds)) fun ds => bnd (dO (rO os)) fun os => bnd (dR (rR p)) fun p => Option.some (Go.Proofs.Ytdognggfplnkiaa.totP (Prod.fst p5) l ds os p)) fun p7 => ite' (Option.getD p6 0 == Option.getD p7 0) (ite' (Option.isSome p6 == Option.isSome p7) (some (.ret (.c (.v (.bool true))) [])) (some (.ret (.c (.v (.bool false))) []))) (some (.ret (.c (.v (.bool false))) []))) (some (.ret (.c (.v (.bool true))) []))
theorem tells_e (n : Int) (l : List Int) (ds : List Drv) (os : List Ord) (p : List Rte) : run C_tells 100000 true (bodyAt Try.f4) (startS (argsE [.agg [.v (.int .i64 n), .ro false (rI l), .ro false (rD ds), .ro false (rO os), .ro false (rR p)]] 0) []) = tells_te n l ds os p := by kernel_rfl
theorem tells_c (n : Int) (l : List Int) (ds : List Drv) (os : List Ord) (p : List Rte) {r : AV} {H' : List Buf} (h : GoesO C_tells r H' (tells_te n l ds os p)) : Contract Try.prog 4 [.agg [.v (.int .i64 n), .ro false (rI l), .ro false (rD ds), .ro false (rO os), .ro false (rR p)]] [] r H' := let ⟨_, e, g⟩ := h; Contract.of_goes rfl wf tells_hG Try.func4 rfl rfl ((tells_e n l ds os p).trans e) g
end Go.Proofs.Ytdognggfplnkiaa
