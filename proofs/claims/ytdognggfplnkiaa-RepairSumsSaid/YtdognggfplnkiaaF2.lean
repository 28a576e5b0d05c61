/-
  Functions of the program on symbolic arguments: their pieces as trees (kernel), their contracts.
-/
import Derived.Test.YtdognggfplnkiaaF1
namespace Go.Proofs.Ytdognggfplnkiaa
open Go.AM
set_option linter.unusedVariables false
set_option linter.unusedSimpArgs false
/-! dray/deal.place -/
noncomputable def C_place : Ctx := { P := Try.prog, G := within_G (places_G (gNil)), md := fun _ => [], live := liveAt [], cuts := [], follow := false, fn := Try.f73, p := 0 }
theorem place_hG : GoodG Try.prog C_place.G := within_g (places_g (GoodG.nil))
noncomputable def place_T (n : Int) (es : List (List AC)) (a : Int) : T := .ite (decide (a ≥ 0)) (.ret (.c (.v (.bool (decide (a ≤ Go.IntKind.wrap Go.IntKind.i64 (n - 1)))))) []) (.ret (.c (.v (.bool false))) [])
theorem place_e (n : Int) (es : List (List AC)) (a : Int) : run C_place 100000 true (bodyAt Try.f73) (startS (argsE [.c (.rp false [.v (.int .i64 n), .ro false es] 0), .c (.v (.int .i64 a))] 0) []) = (place_T n es a).out := by kernel_rfl
theorem place_c (n : Int) (es : List (List AC)) (a : Int) {r : AV} {H' : List Buf} (h : (place_T n es a).out = some (.ret r H')) : Contract Try.prog 73 [.c (.rp false [.v (.int .i64 n), .ro false es] 0), .c (.v (.int .i64 a))] [] r H' := Contract.of_goes rfl wf place_hG Try.func73 rfl rfl ((place_e n es a).trans h) .ret
noncomputable def place_G (G : GT) : GT := gAddT 73 (fun a H => match a, H with | [.c (.rp false [.v (.int .i64 n), .ro false es] 0), .c (.v (.int .i64 a))], [] => place_T n es a | _, _ => .no) G
theorem place_g {G : GT} (h : GoodG Try.prog G) : GoodG Try.prog (place_G G) := GoodG.addT (fun a H r H' h => by (split at h <;> first | exact place_c _ _ _  h | cases h)) h
/-! dray/span.Begin -/
noncomputable def C_begin : Ctx := { P := Try.prog, G := sright_G (gNil), md := fun _ => [], live := liveAt [], cuts := [], follow := false, fn := Try.f55, p := 0 }
theorem begin_hG : GoodG Try.prog C_begin.G := sright_g (GoodG.nil)
noncomputable def begin_T (a b c : Int) : T := .ite (decide (a ≥ 0)) (.ite (decide (a ≤ b)) (.ite (!decide (b ≤ 1000000)) (.ret (.tup [.c (.v (.int .i64 0)), .c (.v (.bool false))]) []) (.ite (decide (c > b)) (.ret (.tup [.c (.v (.int .i64 0)), .c (.v (.bool false))]) []) (.ret (.tup [.c (.v (.int .i64 (if a > c then a else c))), .c (.v (.bool true))]) []))) (.ret (.tup [.c (.v (.int .i64 0)), .c (.v (.bool false))]) [])) (.ret (.tup [.c (.v (.int .i64 0)), .c (.v (.bool false))]) [])
theorem begin_e (a b c : Int) : run C_begin 100000 true (bodyAt Try.f55) (startS (argsE [.agg [.v (.int .i64 a), .v (.int .i64 b)], .c (.v (.int .i64 c))] 0) []) = (begin_T a b c).out := by kernel_rfl
theorem begin_c (a b c : Int) {r : AV} {H' : List Buf} (h : (begin_T a b c).out = some (.ret r H')) : Contract Try.prog 55 [.agg [.v (.int .i64 a), .v (.int .i64 b)], .c (.v (.int .i64 c))] [] r H' := Contract.of_goes rfl wf begin_hG Try.func55 rfl rfl ((begin_e a b c).trans h) .ret
noncomputable def begin_G (G : GT) : GT := gAddT 55 (fun a H => match a, H with | [.agg [.v (.int .i64 a), .v (.int .i64 b)], .c (.v (.int .i64 c))], [] => begin_T a b c | _, _ => .no) G
theorem begin_g {G : GT} (h : GoodG Try.prog G) : GoodG Try.prog (begin_G G) := GoodG.addT (fun a H r H' h => by (split at h <;> first | exact begin_c _ _ _  h | cases h)) h
/-! dray/drayref4.Begin -/
noncomputable def C_r4begin : Ctx := { P := Try.prog, G := r4right_G (gNil), md := fun _ => [], live := liveAt [], cuts := [], follow := false, fn := Try.f103, p := 0 }
theorem r4begin_hG : GoodG Try.prog C_r4begin.G := r4right_g (GoodG.nil)
noncomputable def r4begin_T (a b c : Int) : T := .ite (decide (a ≥ 0)) (.ite (decide (a ≤ b)) (.ite (!decide (b ≤ 1000000)) (.ret (.tup [.c (.v (.int .i64 0)), .c (.v (.bool false))]) []) (.ite (decide (c > b)) (.ret (.tup [.c (.v (.int .i64 0)), .c (.v (.bool false))]) []) (.ite (decide (c < a)) (.ret (.tup [.c (.v (.int .i64 a)), .c (.v (.bool true))]) []) (.ret (.tup [.c (.v (.int .i64 c)), .c (.v (.bool true))]) [])))) (.ret (.tup [.c (.v (.int .i64 0)), .c (.v (.bool false))]) [])) (.ret (.tup [.c (.v (.int .i64 0)), .c (.v (.bool false))]) [])
theorem r4begin_e (a b c : Int) : run C_r4begin 100000 true (bodyAt Try.f103) (startS (argsE [.agg [.v (.int .i64 a), .v (.int .i64 b)], .c (.v (.int .i64 c))] 0) []) = (r4begin_T a b c).out := by kernel_rfl
theorem r4begin_c (a b c : Int) {r : AV} {H' : List Buf} (h : (r4begin_T a b c).out = some (.ret r H')) : Contract Try.prog 103 [.agg [.v (.int .i64 a), .v (.int .i64 b)], .c (.v (.int .i64 c))] [] r H' := Contract.of_goes rfl wf r4begin_hG Try.func103 rfl rfl ((r4begin_e a b c).trans h) .ret
noncomputable def r4begin_G (G : GT) : GT := gAddT 103 (fun a H => match a, H with | [.agg [.v (.int .i64 a), .v (.int .i64 b)], .c (.v (.int .i64 c))], [] => r4begin_T a b c | _, _ => .no) G
theorem r4begin_g {G : GT} (h : GoodG Try.prog G) : GoodG Try.prog (r4begin_G G) := GoodG.addT (fun a H r H' h => by (split at h <;> first | exact r4begin_c _ _ _  h | cases h)) h
end Go.Proofs.Ytdognggfplnkiaa
