/-
  Functions of the program on symbolic arguments: their pieces as trees (kernel), their contracts.
-/
import Derived.Test.YtdognggfplnkiaaAmC
import Derived.Test.YtdognggfplnkiaaRows
namespace Go.Proofs.Ytdognggfplnkiaa
open Go.AM
set_option linter.unusedVariables false
set_option linter.unusedSimpArgs false
theorem wf : WfP Try.prog := ⟨by kernel_rfl, by kernel_rfl⟩
/-! dray/deal.within -/
noncomputable def C_within : Ctx := { P := Try.prog, G := gNil, md := fun _ => [], live := liveAt [], cuts := [], follow := false, fn := Try.f72, p := 0 }
theorem within_hG : GoodG Try.prog C_within.G := GoodG.nil
noncomputable def within_T (a b c : Int) : T := .ite (decide (a ≥ b)) (.ret (.c (.v (.bool (decide (a ≤ c))))) []) (.ret (.c (.v (.bool false))) [])
theorem within_e (a b c : Int) : run C_within 100000 true (bodyAt Try.f72) (startS (argsE [.c (.v (.int .i64 a)), .c (.v (.int .i64 b)), .c (.v (.int .i64 c))] 0) []) = (within_T a b c).out := by kernel_rfl
theorem within_c (a b c : Int) {r : AV} {H' : List Buf} (h : (within_T a b c).out = some (.ret r H')) : Contract Try.prog 72 [.c (.v (.int .i64 a)), .c (.v (.int .i64 b)), .c (.v (.int .i64 c))] [] r H' := Contract.of_goes rfl wf within_hG Try.func72 rfl rfl ((within_e a b c).trans h) .ret
noncomputable def within_G (G : GT) : GT := gAddT 72 (fun a H => match a, H with | [.c (.v (.int .i64 a)), .c (.v (.int .i64 b)), .c (.v (.int .i64 c))], [] => within_T a b c | _, _ => .no) G
theorem within_g {G : GT} (h : GoodG Try.prog G) : GoodG Try.prog (within_G G) := GoodG.addT (fun a H r H' h => by (split at h <;> first | exact within_c _ _ _  h | cases h)) h
/-! (*dray/geo.Map).Places -/
noncomputable def C_places : Ctx := { P := Try.prog, G := gNil, md := fun _ => [], live := liveAt [], cuts := [], follow := false, fn := Try.f104, p := 0 }
theorem places_hG : GoodG Try.prog C_places.G := GoodG.nil
noncomputable def places_T (n : Int) (es : List (List AC)) : T := .ret (.c (.v (.int .i64 n))) []
theorem places_e (n : Int) (es : List (List AC)) : run C_places 100000 true (bodyAt Try.f104) (startS (argsE [.c (.rp false [.v (.int .i64 n), .ro false es] 0)] 0) []) = (places_T n es).out := by kernel_rfl
theorem places_c (n : Int) (es : List (List AC)) {r : AV} {H' : List Buf} (h : (places_T n es).out = some (.ret r H')) : Contract Try.prog 104 [.c (.rp false [.v (.int .i64 n), .ro false es] 0)] [] r H' := Contract.of_goes rfl wf places_hG Try.func104 rfl rfl ((places_e n es).trans h) .ret
noncomputable def places_G (G : GT) : GT := gAddT 104 (fun a H => match a, H with | [.c (.rp false [.v (.int .i64 n), .ro false es] 0)], [] => places_T n es | _, _ => .no) G
theorem places_g {G : GT} (h : GoodG Try.prog G) : GoodG Try.prog (places_G G) := GoodG.addT (fun a H r H' h => by (split at h <;> first | exact places_c _ _  h | cases h)) h
/-! dray/span.Right -/
noncomputable def C_sright : Ctx := { P := Try.prog, G := gNil, md := fun _ => [], live := liveAt [], cuts := [], follow := false, fn := Try.f74, p := 0 }
theorem sright_hG : GoodG Try.prog C_sright.G := GoodG.nil
noncomputable def sright_T (a b : Int) : T := .ite (decide (a ≥ 0)) (.ite (decide (a ≤ b)) (.ret (.c (.v (.bool (decide (b ≤ 1000000))))) []) (.ret (.c (.v (.bool false))) [])) (.ret (.c (.v (.bool false))) [])
theorem sright_e (a b : Int) : run C_sright 100000 true (bodyAt Try.f74) (startS (argsE [.agg [.v (.int .i64 a), .v (.int .i64 b)]] 0) []) = (sright_T a b).out := by kernel_rfl
theorem sright_c (a b : Int) {r : AV} {H' : List Buf} (h : (sright_T a b).out = some (.ret r H')) : Contract Try.prog 74 [.agg [.v (.int .i64 a), .v (.int .i64 b)]] [] r H' := Contract.of_goes rfl wf sright_hG Try.func74 rfl rfl ((sright_e a b).trans h) .ret
noncomputable def sright_G (G : GT) : GT := gAddT 74 (fun a H => match a, H with | [.agg [.v (.int .i64 a), .v (.int .i64 b)]], [] => sright_T a b | _, _ => .no) G
theorem sright_g {G : GT} (h : GoodG Try.prog G) : GoodG Try.prog (sright_G G) := GoodG.addT (fun a H r H' h => by (split at h <;> first | exact sright_c _ _  h | cases h)) h
/-! (dray/api.Fault).Good -/
noncomputable def C_good : Ctx := { P := Try.prog, G := gNil, md := fun _ => [], live := liveAt [], cuts := [], follow := false, fn := Try.f18, p := 0 }
theorem good_hG : GoodG Try.prog C_good.G := GoodG.nil
noncomputable def good_T (a b : Int) : T := .ret (.c (.v (.bool (b == 0)))) []
theorem good_e (a b : Int) : run C_good 100000 true (bodyAt Try.f18) (startS (argsE [.agg [.v (.int .i64 a), .v (.int .i64 b)]] 0) []) = (good_T a b).out := by kernel_rfl
theorem good_c (a b : Int) {r : AV} {H' : List Buf} (h : (good_T a b).out = some (.ret r H')) : Contract Try.prog 18 [.agg [.v (.int .i64 a), .v (.int .i64 b)]] [] r H' := Contract.of_goes rfl wf good_hG Try.func18 rfl rfl ((good_e a b).trans h) .ret
noncomputable def good_G (G : GT) : GT := gAddT 18 (fun a H => match a, H with | [.agg [.v (.int .i64 a), .v (.int .i64 b)]], [] => good_T a b | _, _ => .no) G
theorem good_g {G : GT} (h : GoodG Try.prog G) : GoodG Try.prog (good_G G) := GoodG.addT (fun a H r H' h => by (split at h <;> first | exact good_c _ _  h | cases h)) h
/-! dray/route.Site -/
noncomputable def C_site : Ctx := { P := Try.prog, G := gNil, md := fun _ => [], live := liveAt [], cuts := [], follow := false, fn := Try.f53, p := 0 }
theorem site_hG : GoodG Try.prog C_site.G := GoodG.nil
noncomputable def site_T (a0 a1 a2 a3 a4 a5 a6 a7 a8 a9 : Int) (b : Bool) : T := .ite (b) (.ret (.agg [.v (.int .i64 a6), .v (.int .i64 a7), .v (.int .i64 a8), .v (.int .i64 a9)]) []) (.ret (.agg [.v (.int .i64 a2), .v (.int .i64 a3), .v (.int .i64 a4), .v (.int .i64 a5)]) [])
theorem site_e (a0 a1 a2 a3 a4 a5 a6 a7 a8 a9 : Int) (b : Bool) : run C_site 100000 true (bodyAt Try.f53) (startS (argsE [.agg [.v (.int .i64 a0), .v (.int .i64 a1), .v (.int .i64 a2), .v (.int .i64 a3), .v (.int .i64 a4), .v (.int .i64 a5), .v (.int .i64 a6), .v (.int .i64 a7), .v (.int .i64 a8), .v (.int .i64 a9)], .c (.v (.bool b))] 0) []) = (site_T a0 a1 a2 a3 a4 a5 a6 a7 a8 a9 b).out := by kernel_rfl
theorem site_c (a0 a1 a2 a3 a4 a5 a6 a7 a8 a9 : Int) (b : Bool) {r : AV} {H' : List Buf} (h : (site_T a0 a1 a2 a3 a4 a5 a6 a7 a8 a9 b).out = some (.ret r H')) : Contract Try.prog 53 [.agg [.v (.int .i64 a0), .v (.int .i64 a1), .v (.int .i64 a2), .v (.int .i64 a3), .v (.int .i64 a4), .v (.int .i64 a5), .v (.int .i64 a6), .v (.int .i64 a7), .v (.int .i64 a8), .v (.int .i64 a9)], .c (.v (.bool b))] [] r H' := Contract.of_goes rfl wf site_hG Try.func53 rfl rfl ((site_e a0 a1 a2 a3 a4 a5 a6 a7 a8 a9 b).trans h) .ret
noncomputable def site_G (G : GT) : GT := gAddT 53 (fun a H => match a, H with | [.agg [.v (.int .i64 a0), .v (.int .i64 a1), .v (.int .i64 a2), .v (.int .i64 a3), .v (.int .i64 a4), .v (.int .i64 a5), .v (.int .i64 a6), .v (.int .i64 a7), .v (.int .i64 a8), .v (.int .i64 a9)], .c (.v (.bool b))], [] => site_T a0 a1 a2 a3 a4 a5 a6 a7 a8 a9 b | _, _ => .no) G
theorem site_g {G : GT} (h : GoodG Try.prog G) : GoodG Try.prog (site_G G) := GoodG.addT (fun a H r H' h => by (split at h <;> first | exact site_c _ _ _ _ _ _ _ _ _ _ _  h | cases h)) h
/-! (*dray/geo.Map).Time -/
noncomputable def C_gtime : Ctx := { P := Try.prog, G := gNil, md := fun _ => [], live := liveAt [], cuts := [], follow := false, fn := Try.f54, p := 0 }
theorem gtime_hG : GoodG Try.prog C_gtime.G := GoodG.nil
noncomputable def gtime_T (n : Int) (es : List (List AC)) (a b : Int) : T := .ite (decide (a < 0)) (.ret (.tup [.c (.v (.int .i64 0)), .c (.v (.bool false))]) []) (.ite (decide (b < 0)) (.ret (.tup [.c (.v (.int .i64 0)), .c (.v (.bool false))]) []) (.ite (decide (a ≥ n)) (.ret (.tup [.c (.v (.int .i64 0)), .c (.v (.bool false))]) []) (.ite (decide (b ≥ n)) (.ret (.tup [.c (.v (.int .i64 0)), .c (.v (.bool false))]) []) (.ite (decide (0 ≤ Go.IntKind.wrap Go.IntKind.i64 (Go.IntKind.wrap Go.IntKind.i64 (a * n) + b))) (.bnd (getE es (Int.toNat (Go.IntKind.wrap Go.IntKind.i64 (Go.IntKind.wrap Go.IntKind.i64 (a * n) + b))) 1) fun e4 => .bnd (cInt Go.IntKind.i64 e4 0) fun n5 => .ret (.tup [.c (.v (.int .i64 n5)), .c (.v (.bool true))]) []) (.no)))))
theorem gtime_e (n : Int) (es : List (List AC)) (a b : Int) : run C_gtime 100000 true (bodyAt Try.f54) (startS (argsE [.c (.rp false [.v (.int .i64 n), .ro false es] 0), .c (.v (.int .i64 a)), .c (.v (.int .i64 b))] 0) []) = (gtime_T n es a b).out := by kernel_rfl
theorem gtime_c (n : Int) (es : List (List AC)) (a b : Int) {r : AV} {H' : List Buf} (h : (gtime_T n es a b).out = some (.ret r H')) : Contract Try.prog 54 [.c (.rp false [.v (.int .i64 n), .ro false es] 0), .c (.v (.int .i64 a)), .c (.v (.int .i64 b))] [] r H' := Contract.of_goes rfl wf gtime_hG Try.func54 rfl rfl ((gtime_e n es a b).trans h) .ret
noncomputable def gtime_G (G : GT) : GT := gAddT 54 (fun a H => match a, H with | [.c (.rp false [.v (.int .i64 n), .ro false es] 0), .c (.v (.int .i64 a)), .c (.v (.int .i64 b))], [] => gtime_T n es a b | _, _ => .no) G
theorem gtime_g {G : GT} (h : GoodG Try.prog G) : GoodG Try.prog (gtime_G G) := GoodG.addT (fun a H r H' h => by (split at h <;> first | exact gtime_c _ _ _ _  h | cases h)) h
/-! dray/drayref4.Right -/
noncomputable def C_r4right : Ctx := { P := Try.prog, G := gNil, md := fun _ => [], live := liveAt [], cuts := [], follow := false, fn := Try.f102, p := 0 }
theorem r4right_hG : GoodG Try.prog C_r4right.G := GoodG.nil
noncomputable def r4right_T (a b : Int) : T := .ite (decide (a ≥ 0)) (.ite (decide (a ≤ b)) (.ret (.c (.v (.bool (decide (b ≤ 1000000))))) []) (.ret (.c (.v (.bool false))) [])) (.ret (.c (.v (.bool false))) [])
theorem r4right_e (a b : Int) : run C_r4right 100000 true (bodyAt Try.f102) (startS (argsE [.agg [.v (.int .i64 a), .v (.int .i64 b)]] 0) []) = (r4right_T a b).out := by kernel_rfl
theorem r4right_c (a b : Int) {r : AV} {H' : List Buf} (h : (r4right_T a b).out = some (.ret r H')) : Contract Try.prog 102 [.agg [.v (.int .i64 a), .v (.int .i64 b)]] [] r H' := Contract.of_goes rfl wf r4right_hG Try.func102 rfl rfl ((r4right_e a b).trans h) .ret
noncomputable def r4right_G (G : GT) : GT := gAddT 102 (fun a H => match a, H with | [.agg [.v (.int .i64 a), .v (.int .i64 b)]], [] => r4right_T a b | _, _ => .no) G
theorem r4right_g {G : GT} (h : GoodG Try.prog G) : GoodG Try.prog (r4right_G G) := GoodG.addT (fun a H r H' h => by (split at h <;> first | exact r4right_c _ _  h | cases h)) h
/-! dray/drayref6.place -/
noncomputable def C_r6place : Ctx := { P := Try.prog, G := gNil, md := fun _ => [], live := liveAt [], cuts := [], follow := false, fn := Try.f101, p := 0 }
theorem r6place_hG : GoodG Try.prog C_r6place.G := GoodG.nil
noncomputable def r6place_T (n : Int) (es : List (List AC)) (a : Int) : T := .ite (decide (a ≥ 0)) (.ret (.c (.v (.bool (decide (a < n))))) []) (.ret (.c (.v (.bool false))) [])
theorem r6place_e (n : Int) (es : List (List AC)) (a : Int) : run C_r6place 100000 true (bodyAt Try.f101) (startS (argsE [.c (.rp false [.v (.int .i64 n), .ro false es] 0), .c (.v (.int .i64 a))] 0) []) = (r6place_T n es a).out := by kernel_rfl
theorem r6place_c (n : Int) (es : List (List AC)) (a : Int) {r : AV} {H' : List Buf} (h : (r6place_T n es a).out = some (.ret r H')) : Contract Try.prog 101 [.c (.rp false [.v (.int .i64 n), .ro false es] 0), .c (.v (.int .i64 a))] [] r H' := Contract.of_goes rfl wf r6place_hG Try.func101 rfl rfl ((r6place_e n es a).trans h) .ret
noncomputable def r6place_G (G : GT) : GT := gAddT 101 (fun a H => match a, H with | [.c (.rp false [.v (.int .i64 n), .ro false es] 0), .c (.v (.int .i64 a))], [] => r6place_T n es a | _, _ => .no) G
theorem r6place_g {G : GT} (h : GoodG Try.prog G) : GoodG Try.prog (r6place_G G) := GoodG.addT (fun a H r H' h => by (split at h <;> first | exact r6place_c _ _ _  h | cases h)) h
/-! dray/drayref6.Site -/
noncomputable def C_r6site : Ctx := { P := Try.prog, G := gNil, md := fun _ => [], live := liveAt [], cuts := [], follow := false, fn := Try.f47, p := 0 }
theorem r6site_hG : GoodG Try.prog C_r6site.G := GoodG.nil
noncomputable def r6site_T (a0 a1 a2 a3 a4 a5 a6 a7 a8 a9 : Int) (a : Int) (b : Bool) : T := .ite (b) (.ret (.agg [.v (.int .i64 a6), .v (.int .i64 a7), .v (.int .i64 a8), .v (.int .i64 a9)]) []) (.ret (.agg [.v (.int .i64 a2), .v (.int .i64 a3), .v (.int .i64 a4), .v (.int .i64 a5)]) [])
theorem r6site_e (a0 a1 a2 a3 a4 a5 a6 a7 a8 a9 : Int) (a : Int) (b : Bool) : run C_r6site 100000 true (bodyAt Try.f47) (startS (argsE [.agg [.v (.int .i64 a0), .v (.int .i64 a1), .v (.int .i64 a2), .v (.int .i64 a3), .v (.int .i64 a4), .v (.int .i64 a5), .v (.int .i64 a6), .v (.int .i64 a7), .v (.int .i64 a8), .v (.int .i64 a9)], .agg [.v (.int .i64 a), .v (.bool b)]] 0) []) = (r6site_T a0 a1 a2 a3 a4 a5 a6 a7 a8 a9 a b).out := by kernel_rfl
theorem r6site_c (a0 a1 a2 a3 a4 a5 a6 a7 a8 a9 : Int) (a : Int) (b : Bool) {r : AV} {H' : List Buf} (h : (r6site_T a0 a1 a2 a3 a4 a5 a6 a7 a8 a9 a b).out = some (.ret r H')) : Contract Try.prog 47 [.agg [.v (.int .i64 a0), .v (.int .i64 a1), .v (.int .i64 a2), .v (.int .i64 a3), .v (.int .i64 a4), .v (.int .i64 a5), .v (.int .i64 a6), .v (.int .i64 a7), .v (.int .i64 a8), .v (.int .i64 a9)], .agg [.v (.int .i64 a), .v (.bool b)]] [] r H' := Contract.of_goes rfl wf r6site_hG Try.func47 rfl rfl ((r6site_e a0 a1 a2 a3 a4 a5 a6 a7 a8 a9 a b).trans h) .ret
noncomputable def r6site_G (G : GT) : GT := gAddT 47 (fun a H => match a, H with | [.agg [.v (.int .i64 a0), .v (.int .i64 a1), .v (.int .i64 a2), .v (.int .i64 a3), .v (.int .i64 a4), .v (.int .i64 a5), .v (.int .i64 a6), .v (.int .i64 a7), .v (.int .i64 a8), .v (.int .i64 a9)], .agg [.v (.int .i64 a), .v (.bool b)]], [] => r6site_T a0 a1 a2 a3 a4 a5 a6 a7 a8 a9 a b | _, _ => .no) G
theorem r6site_g {G : GT} (h : GoodG Try.prog G) : GoodG Try.prog (r6site_G G) := GoodG.addT (fun a H r H' h => by (split at h <;> first | exact r6site_c _ _ _ _ _ _ _ _ _ _ _ _  h | cases h)) h
/-! (*dray/drayref4.Map).Time -/
noncomputable def C_r4time : Ctx := { P := Try.prog, G := gNil, md := fun _ => [], live := liveAt [], cuts := [], follow := false, fn := Try.f49, p := 0 }
theorem r4time_hG : GoodG Try.prog C_r4time.G := GoodG.nil
noncomputable def r4time_T (n : Int) (es : List (List AC)) (a b : Int) : T := .ite (decide (a < 0)) (.ret (.tup [.c (.v (.int .i64 0)), .c (.v (.bool false))]) []) (.ite (decide (a ≥ n)) (.ret (.tup [.c (.v (.int .i64 0)), .c (.v (.bool false))]) []) (.ite (decide (b < 0)) (.ret (.tup [.c (.v (.int .i64 0)), .c (.v (.bool false))]) []) (.ite (decide (b ≥ n)) (.ret (.tup [.c (.v (.int .i64 0)), .c (.v (.bool false))]) []) (.ite (decide (0 ≤ Go.IntKind.wrap Go.IntKind.i64 (Go.IntKind.wrap Go.IntKind.i64 (a * n) + b))) (.bnd (getE es (Int.toNat (Go.IntKind.wrap Go.IntKind.i64 (Go.IntKind.wrap Go.IntKind.i64 (a * n) + b))) 1) fun e4 => .bnd (cInt Go.IntKind.i64 e4 0) fun n5 => .ret (.tup [.c (.v (.int .i64 n5)), .c (.v (.bool true))]) []) (.no)))))
theorem r4time_e (n : Int) (es : List (List AC)) (a b : Int) : run C_r4time 100000 true (bodyAt Try.f49) (startS (argsE [.c (.rp false [.v (.int .i64 n), .ro false es] 0), .c (.v (.int .i64 a)), .c (.v (.int .i64 b))] 0) []) = (r4time_T n es a b).out := by kernel_rfl
theorem r4time_c (n : Int) (es : List (List AC)) (a b : Int) {r : AV} {H' : List Buf} (h : (r4time_T n es a b).out = some (.ret r H')) : Contract Try.prog 49 [.c (.rp false [.v (.int .i64 n), .ro false es] 0), .c (.v (.int .i64 a)), .c (.v (.int .i64 b))] [] r H' := Contract.of_goes rfl wf r4time_hG Try.func49 rfl rfl ((r4time_e n es a b).trans h) .ret
noncomputable def r4time_G (G : GT) : GT := gAddT 49 (fun a H => match a, H with | [.c (.rp false [.v (.int .i64 n), .ro false es] 0), .c (.v (.int .i64 a)), .c (.v (.int .i64 b))], [] => r4time_T n es a b | _, _ => .no) G
theorem r4time_g {G : GT} (h : GoodG Try.prog G) : GoodG Try.prog (r4time_G G) := GoodG.addT (fun a H r H' h => by (split at h <;> first | exact r4time_c _ _ _ _  h | cases h)) h
end Go.Proofs.Ytdognggfplnkiaa
