/-
  'RepairSums' answers true, whatever the world is, and the world reads as before. No condition. (Each function's pieces are reckoned on the abstract machine by the kernel; the machine's soundness carries them to the model; the Total and the sum come to one spec.)
-/
import Derived.Test.YtdognggfplnkiaaM17
namespace Go.Proofs.Ytdognggfplnkiaa.repairSums
open Go.ChangeShapes Go.WideShapes Go.ChangeAt Go.RowKit Go.AM
set_option linter.unusedVariables false
set_option linter.unusedSimpArgs false

theorem own : ownKnob Try.prog.godebug = none := by kernel_rfl
theorem readable : ∀ t ∈ ([54] : List TypeId), Try.prog.readableRec t = true ∧ t < Try.prog.types.size := by
  have h : (([54] : List TypeId).all fun t => Try.prog.readableRec t && decide (t < Try.prog.types.size)) = true := by kernel_rfl
  intro t ht
  have := List.all_eq_true.1 h t ht
  simpa using this

set_option maxRecDepth 100000 in
theorem views {H : Type} {enc : TypeId × Value → H} (W : World) {base : Nat} {vs : List Value} {ds : List (DataW H)} {p : List MemPlace}
    (hval : ∀ (j : Nat) t v, ([54] : List TypeId)[j]? = some t → vs[j]? = some v → Value.okWide Try.prog W .any base t v)
    (hA : DataW.TrodAll enc Try.prog W 0 (fun _ => true) true [54] vs ds p) :
    ∃ ys, Fa FitsA [.agg shW] ys ∧ Fa (VR W noL (fun b => b < W.heap.size) (fun _ => False)) ys vs :=
  trodAll_views (P := Try.prog) (d := 12) kids W (fun t ht => (readable t ht).2) (by kernel_rfl) hval hA
set_option maxRecDepth 100000 in
theorem walk {H : Type} {enc : TypeId × Value → H} (W : World) {base : Nat} {args : Array Value} {ds : List (DataW H)} {p : List MemPlace}
    (hval : ∀ (j : Nat) t v, ([54] : List TypeId)[j]? = some t → args.toList[j]? = some v → Value.okWide Try.prog W .any base t v)
    (hA : DataW.TrodAll enc Try.prog W 0 (fun _ => true) true [54] args.toList ds p) :
    Calls Try.prog 6 args W fun e W' => e = .returned (.bool true) ∧ Below W.heap.size W W' := by
  obtain ⟨ys, hf, hv⟩ := views W hval hA
  obtain ⟨y, hy, hf'⟩ : ∃ y, FitsA (.agg shW) y ∧ ys = [y] := by cases hf with | cons a b => cases b; exact ⟨_, a, rfl⟩
  obtain ⟨hy, rfl⟩ := And.intro hy hf'
  obtain ⟨cs, hfl, rfl⟩ : ∃ cs, FitsL shW cs ∧ y = .agg cs := by cases hy with | agg h => exact ⟨_, h, rfl⟩
  obtain ⟨n, l, ds, os, p, rfl, h1, h2, h3, h4⟩ := fits_W hfl
  have hc := Contract.seen (sums_ok n h1 h2 h3 h4) rfl W args.toList hv
  rw [Array.toArray_toList] at hc
  refine hc.mono fun e W' h => ?_
  obtain ⟨v, he, ⟨m', R', Rf', hv⟩, hb⟩ := h
  have := hv.v_inv
  subst this
  exact ⟨he, hb⟩

set_option maxRecDepth 100000 in
theorem lifted (os : Os) (started : os.Started) (H : Type) (enc : TypeId × Value → H) :
    ReturnsInHanded {} Try.checked os 6 .any (Rows.repairSumsSpec.pre6 enc Try.prog Try.f6 Rows.repairSumsRow.domain false) (Rows.repairSumsSpec.post enc Try.prog Try.f6 false true false false) := by
  refine returnsInHanded_of_change (C := Try.checked) own started (by kernel_rfl) Try.func6
    (ChangeSpec.witness6 (enc := enc) (C := Try.checked) false ⟨#[], #[.agg #[.int .i64 0, .slice none 0 0, .slice none 0 0, .slice none 0 0, .slice none 0 0]], []⟩ 12 (by kernel_rfl) (by kernel_rfl) (by kernel_rfl) (by kernel_rfl)) ?_
  intro W base args ds gs before hval0 hW hcnd _
  have hval : ∀ (j : Nat) t v, Try.f6.params[j]? = some t → args[j]? = some v → Value.okWide Try.prog W .any base t v := hval0
  have hlt0 := hW.lt
  have hW' := hW
  obtain ⟨p, q, hA0, hV, rfl, hfz, hnd⟩ := hW
  have hA : DataW.TrodAll enc Try.prog W 0 (fun _ => true) true Try.f6.params.toList args.toList ds p := hA0
  rw [Try.params6] at hA hval
  obtain ⟨rfl, rfl⟩ := trodVars_none hV
  have hlen := trodAll_len (ts := [54]) hA
  refine (walk (enc := enc) W (fun j t v h1 h2 => hval j t v (by simpa using h1) (by simpa using h2)) hA).mono fun e W' ⟨he, hg⟩ => ?_
  subst he
  have hres : ∀ {b : Nat} {sp : Nat → Bool} {hd : Bool}, DataW.TrodAll enc Try.prog W' b sp hd [4] [Value.bool true] [.lit (.bool true)] [] := trodAll_cons_mk (shut_bool Try.underlying4 _) trodAll_mk0
  have hspec : Rows.repairSumsSpec.fn H (ds ++ []) = { results := [.lit (.bool true)], args := ds } := by
    rw [List.append_nil]
    match ds, hlen with
    | [d0], _ => rfl
  exact ⟨_, rfl, post_of_below (pa := p) (pv := []) hW' (fun _ _ _ => by rw [hspec]; exact hres) (fun sp hsp => by rw [hspec, Try.params6]; exact trodAll_stays laidOut hg readable hA (fun x hx => hlt0 x (by simp [hx])) (fun x hx => hsp x (by simp [hx]))) (fun _ _ => by rw [hspec]; rfl) rfl
    hg (ok_one (by kernel_rfl) rfl (okWide_bool_mk Try.underlying4 _))⟩

theorem over : Rows.repairSumsRow.holds Try.pinned (OpenSpec.ofChange Rows.repairSumsSpec) :=
  OpenClaim.holds_of_wide 6 Try.f6 rfl rfl rfl rfl rfl rfl rfl ⟨rfl, rfl, rfl, rfl, rfl⟩ rfl rfl rfl rfl rfl (by kernel_rfl) Try.func6 (by kernel_rfl)
    (of_decide_eq_true (by kernel_rfl)) (by unfold Func.isWrapper; first | (rw [if_pos (by decide +kernel)]; kernel_rfl) | (rw [if_neg (by decide +kernel)]; exact ⟨rfl, rfl⟩))
    (fun os started H enc _ => lifted os started H enc)

theorem proved : Rows.RepairSumsSaid := over

#print axioms proved
end Go.Proofs.Ytdognggfplnkiaa.repairSums
