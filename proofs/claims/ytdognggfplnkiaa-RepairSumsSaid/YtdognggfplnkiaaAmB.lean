/-
  The abstract machine and its soundness, part 2 of 3: an interpreter over lists, proved right against the model once for all programs.
-/
import Derived.Deep.AppendSrc
import Derived.Laws.IdiomStrings
import Derived.Test.YtdognggfplnkiaaAmA
set_option linter.unusedVariables false
set_option linter.unusedSimpArgs false

namespace Go.AM
open Go.RowKit

variable {B : Base} {w w' : World} {m : Lm} {R Rf : Bs} {h : Tr Buf} {P : Program} {β : Type}

theorem RowsAt.laid {Rs : Bs} {sz i : Nat} {es : List (List AC)} {arr : Array Value} {ds : List AC} {us : List Value} (H : RowsAt w Rs sz es arr) (hsz : ∀ e ∈ es, e.length = sz) (ha : arr.size = es.length * sz) (hi : i < es.length)
    (hf : Fa (CR w noL Rs Rs) ds us) (hl : ds.length = sz) : RowsAt w Rs sz (es.set i ds) (lay (i * sz) arr (us.zipIdx 0)) := by
  have hin : i * sz + sz ≤ es.length * sz := by rw [← Nat.succ_mul]; exact Nat.mul_le_mul_right sz hi
  have hul := hf.length
  obtain ⟨e1, e2⟩ := lay_spec (i * sz) us 0 arr (by omega)
  intro j e he k x hx
  rw [e2]
  by_cases hj : j = i
  · subst hj
    rw [List.getElem?_set_self hi] at he
    cases he
    have hk : k < ds.length := (List.getElem?_eq_some_iff.1 hx).1
    obtain ⟨u, hu, hr⟩ := hf.get k x hx
    exact ⟨u, by rw [if_pos (by omega), show j * sz + k - (j * sz + 0) = k by omega]; exact hu, hr⟩
  · rw [List.getElem?_set_ne (by omega)] at he
    obtain ⟨u, hu, hr⟩ := H j e he k x hx
    have hk : k < sz := by rw [← hsz e (List.mem_of_getElem? he)]; exact (List.getElem?_eq_some_iff.1 hx).1
    refine ⟨u, ?_, hr⟩
    rw [if_neg]
    · exact hu
    · intro hc
      rcases Nat.lt_or_gt_of_ne hj with hlt | hgt
      · have : j * sz + sz ≤ i * sz := by rw [← Nat.succ_mul]; exact Nat.mul_le_mul_right sz hlt
        omega
      · have : i * sz + sz ≤ j * sz := by rw [← Nat.succ_mul]; exact Nat.mul_le_mul_right sz hgt
        omega

theorem delAll_append : ∀ (a b : List Nat) (h : Tr Buf), delAll h (a ++ b) = delAll (delAll h a) b
  | [], b, h => rfl
  | i :: a, b, h => by simp [delAll, delAll_append a b]

theorem fillR_good {s : S} {sz : Nat} {k : List (List AC) → Bool → List Nat → Tr Buf → Option β} : ∀ {parts : List (Nat × Operand)} {es : List (List AC)} {f : Bool} {ids : List Nat} {h : Tr Buf} {out : β},
    fillR s sz parts es f ids h k = some out →
    ∃ es' f' ids', k es' f' (ids ++ ids') (delAll h ids') = some out ∧ es'.length = es.length ∧
      ∀ {w : World} {m : Lm} {R Rf : Bs} {hD : Tr Buf} {arr : Array Value} {vps : List (Nat × Value)}, (∀ i ∈ ids', hD.get i = h.get i) → Inv B w m R Rf hD → Fa (PartR s w m R Rf) parts vps →
        RowsAt w (sel f Rf R) sz es arr → (∀ e ∈ es, e.length = sz) → arr.size = es.length * sz →
        ∃ arr' R' Rf', Instr.fill (fun i => some (i * sz, sz)) arr vps = some arr' ∧ arr'.size = arr.size ∧ Inv B w m R' Rf' (delAll hD ids') ∧ Ext w w m m R R' Rf Rf' ∧ RowsAt w (sel f' Rf' R') sz es' arr' ∧ (∀ e ∈ es', e.length = sz) := by
  intro parts
  induction parts with
  | nil =>
    intro es f ids h out H
    refine ⟨es, f, [], by simpa [delAll, fillR] using H, rfl, fun {w m R Rf hD arr vps} hag I hv hr hs ha => ?_⟩
    cases hv
    exact ⟨arr, R, Rf, rfl, rfl, I, Ext.refl w m R Rf I.sub, hr, hs⟩
  | cons p r ih =>
    intro es f ids h out H
    obtain ⟨i, x⟩ := p
    unfold fillR at H
    split at H
    · rename_i av hop
      split at H
      · rename_i vs hvs
        split at H
        · rename_i hc
          rw [Bool.and_eq_true] at hc
          have h1 := Nat.eq_of_beq_eq_true hc.1
          have h2 : i < es.length := by simpa [Nat.blt_eq] using hc.2
          rw [closeK_eq] at H
          cases hcl : closeCs h vs with
          | none => rw [hcl] at H; cases H
          | some q =>
            obtain ⟨ds, f1, ids1, h'⟩ := q
            rw [hcl] at H
            simp only [Option.bind_some] at H
            obtain ⟨hdel, hdl⟩ := closeCs_del hcl
            subst hdel
            obtain ⟨es', f', ids', hK, hlen, hgo⟩ := ih H
            refine ⟨es', f', ids1 ++ ids', by rw [delAll_append]; rw [List.append_assoc] at hK; exact hK, by rw [hlen]; simp, fun {w m R Rf hD arr vps} hag I hv hr hs ha => ?_⟩
            cases hv with
            | @cons _ q _ vps hpq hrest =>
              obtain ⟨j, v⟩ := q
              obtain ⟨e, a, ha', hva⟩ := hpq
              simp only at e ha' hva
              subst e
              rw [hop] at ha'; cases ha'
              have hcs := hva.cells hvs
              have hcl' := hcs.length
              simp only [Array.length_toList] at hcl'
              obtain ⟨R1, Rf1, I1, E1, hf1, hF1⟩ := closeCs_good hcl hcs (fun i hi => hag i (by simp [hi])) I
              have hin : i * sz + sz ≤ es.length * sz := by rw [← Nat.succ_mul]; exact Nat.mul_le_mul_right sz h2
              have hr1 : RowsAt w (sel (f && f1) Rf1 R1) sz (es.set i ds) (lay (i * sz) arr (v.cells.toList.zipIdx 0)) := by
                refine RowsAt.laid ?_ hs ha h2 (hf1.mono fun _ _ hh => hh.weak (sel_and' I1.sub f f1)) (by omega)
                exact (hr.mono (E1.sel f)).mono (ExtS (sel_and I1.sub f f1))
              have hl := (lay_spec (i * sz) v.cells.toList 0 arr (by simp; omega)).1
              have hag2 : ∀ j ∈ ids', (delAll hD ids1).get j = (delAll h ids1).get j := fun j hj => by
                rw [delAll_get, delAll_get]
                split
                · rfl
                · exact hag j (by simp [hj])
              obtain ⟨arr', R2, Rf2, g1, g2, g3, g4, g5, g6⟩ := hgo (arr := lay (i * sz) arr (v.cells.toList.zipIdx 0)) hag2 I1 (hrest.mono fun _ _ hh => ⟨hh.1, hh.2.imp fun _ hh => ⟨hh.1, hh.2.mono E1⟩⟩) hr1 (fun e' he' => by
                rcases List.mem_or_eq_of_mem_set he' with hh | rfl
                · exact hs e' hh
                · omega) (by rw [hl, ha]; simp)
              refine ⟨arr', R2, Rf2, ?_, by rw [g2, hl], by rw [delAll_append]; exact g3, E1.trans g4, g5, g6⟩
              rw [fill_step rfl (by omega) (by omega)]
              exact g1
        · cases H
      · cases H
    · cases H

/-- Behind moves. -/
theorem Post.after {id : Nat} {ids : List Nat} {U : List (Nat × Option Buf)} {hD : Tr Buf} {v : AV} {val : Value} {R' Rf' : Bs} (H : Post B id U (delAll hD ids) v w m R' Rf' val w') (E : Ext w w m m R R' Rf Rf') : Post B id (dels ids ++ U) hD v w m R Rf val w' := by
  obtain ⟨m2, R2, Rf2, a, b, c, d⟩ := H
  exact ⟨m2, R2, Rf2, by rw [applyU_append, applyU_dels]; exact a, b, E.trans c, d⟩

theorem buildSliceK_good {st : Bool} {id : Nat} {t : TypeId} {len : Nat} {parts : List (Nat × Operand)} {s : S} {K : KT β} {out : β} (H : buildSliceK st P id t len parts s K = some out) :
    ∃ v U rd wr, K v { s with h := applyU U s.h } rd wr = some out ∧ ∀ vps, Does B P id U s.h rd wr v (fun w m R Rf => Fa (PartR s w m R Rf) parts vps) fun _ => Instr.buildSlice t len vps.toArray := by
  unfold buildSliceK at H
  split at H
  · rename_i e he
    split at H
    · rename_i z hz hb
      have hb := Nat.le_of_ble_eq_true hb
      obtain ⟨hu, inf, hinf⟩ := elemT_spec he
      obtain ⟨i, zv, hi, hz1, rfl, hs, hn⟩ := zeroCs_spec hz
      rw [hinf] at hi; cases hi
      obtain ⟨es, f, ids, H, hlen, hgo⟩ := fillR_good (B := B) H
      rw [withH_eq, putH_eq] at H
      refine ⟨.c (.ref id), dels ids ++ [(id, some (.row f (P.cellsOf e) es))], [], ids, ?_, fun vps => ⟨?_, fun w m R Rf hD hx hag hp hm I => ?_⟩⟩
      · rw [applyU_append, applyU_dels]
        simpa [applyU] using H
      · intro k hk
        simp only [dels, List.map_append, List.map_map, List.map_cons, List.map_nil, List.mem_append, List.mem_map, Function.comp, List.mem_cons, List.not_mem_nil, or_false] at hk
        rcases hk with ⟨a, ha, rfl⟩ | rfl
        · exact .inr ha
        · exact .inl rfl
      · rw [List.length_replicate] at hlen
        have h0 : RowsAt w (sel true Rf R) (P.cellsOf e) (List.replicate len (closeZ (zv.cells.toList.map .v))) (zerosOf zv.cells (len * P.cellsOf e)) := zeroRows hs hn _ fun i k hi hk => zerosOf_get hn hi hk
        obtain ⟨arr', R', Rf', g1, g2, g3, g4, g5, g6⟩ := hgo (fun i hi => hag i (by simpa using hi)) I hx h0 (fun e' he' => by rw [List.eq_of_mem_replicate he', closeZ_length]; simpa using hn) (by rw [zerosOf_size, List.length_replicate])
        rw [zerosOf_size] at g2
        refine ⟨_, _, ?_, (Post.rowAt (t' := e) (id := id) (cap := len) g3 hp hm g5 g6 (by omega) (by rw [g2]; exact Nat.le_refl _)).after g4⟩
        have hb' : ¬ (len * P.cellsOf e > 2 ^ 24) := by omega
        simp only [Instr.buildSlice, Sem.run_bind, run_under hu, Result.andThen_ok, run_size hinf, if_neg hb']
        have hfill : ∀ zero : Array Value, (len * P.cellsOf e = 0 ∨ zero = zv.cells) → Instr.fill (fun i => some (i * P.cellsOf e, P.cellsOf e)) ((Array.range (len * P.cellsOf e)).map (zero[· % zero.size]!)) vps = some arr' := by
          intro zero hz
          rcases hz with h0 | rfl
          · rw [h0] at g1 ⊢
            have : (Array.range 0).map (zero[· % zero.size]!) = zerosOf zv.cells 0 := by
              unfold zerosOf
              apply Array.ext <;> simp
            rw [this]; exact g1
          · exact g1
        by_cases h0 : len * P.cellsOf e = 0
        · rw [if_pos h0]
          simp only [Sem.run_pure, Sem.run_bind, Result.andThen_ok, hfill _ (.inl h0), run_newRow, hlen]
        · rw [if_neg h0]
          simp only [Sem.run_pure, Sem.run_bind, Result.andThen_ok, run_zero hinf hz1, hfill _ (.inr rfl), run_newRow, hlen]
    · cases H
  · cases H
end Go.AM

namespace Go.AM
open Go.RowKit

variable {B : Base} {w w' : World} {m : Lm} {R Rf : Bs} {h : Tr Buf} {P : Program} {β : Type}

theorem isV_any {x : AC} (hx : isV x = true) {v : Value} {m m' : Lm} {R Rf R' Rf' : Bs} (H : CR w m R Rf x v) : CR w m' R' Rf' x v := by
  cases x <;> simp [isV] at hx
  cases H; exact .v ‹_›

theorem ckK_spec {flat fr : Bool} {sz : Nat} {osz : Option Nat} {es : List (List AC)} {K : Bool → List (List AC) → Option β} {out : β} (H : ckK flat sz fr osz es K = some out) :
    ∃ fr', K fr' es = some out ∧ (∀ z, osz = some z → z = sz) ∧ (osz = none → ∀ e ∈ es, e.length = sz) ∧
      (fr' = fr ∨ ∀ e ∈ es, ∀ x ∈ e, isV x = true) := by
  have hszL : ∀ es, szL sz es = true → ∀ e ∈ es, e.length = sz := fun es hs e he => by
    simp only [szL, List.all_eq_true] at hs
    exact Nat.eq_of_beq_eq_true (hs e he)
  have hflL : ∀ es, flatL es = true → ∀ e ∈ es, ∀ x ∈ e, isV x = true := fun es hs e he x hx => by
    simp only [flatL, List.all_eq_true] at hs
    exact hs e he x hx
  unfold ckK at H
  split at H
  · rename_i z
    split at H
    · rename_i hz
      have hz := Nat.eq_of_beq_eq_true hz
      split at H
      · exact ⟨true, H, fun z' hz' => by cases hz'; exact hz, (fun h => by cases h), .inl rfl⟩
      · split at H
        · have H1 := bnd_some H
          clear H
          obtain ⟨es', he, H⟩ := H1
          unfold flatCk at he
          split at he
          · rename_i hf
            cases he
            exact ⟨true, H, fun z' hz' => by cases hz'; exact hz, (fun h => by cases h), .inr (hflL _ hf)⟩
          · cases he
        · exact ⟨false, H, fun z' hz' => by cases hz'; exact hz, (fun h => by cases h), .inl rfl⟩
    · cases H
  · split at H
    · split at H
      · have H1 := bnd_some H
        clear H
        obtain ⟨es', he, H⟩ := H1
        obtain ⟨rfl, hs⟩ := szCk_spec he
        exact ⟨true, H, (fun z hz => by cases hz), fun _ => hs, .inl rfl⟩
      · have H1 := bnd_some H
        clear H
        obtain ⟨es', he, H⟩ := H1
        unfold ckR at he
        split at he
        · rename_i hc
          rw [Bool.and_eq_true] at hc
          cases he
          exact ⟨true, H, (fun z hz => by cases hz), fun _ => hszL _ hc.1, .inr (hflL _ hc.2)⟩
        · cases he
    · have H1 := bnd_some H
      clear H
      obtain ⟨es', he, H⟩ := H1
      obtain ⟨rfl, hs⟩ := szCk_spec he
      exact ⟨_, H, (fun z hz => by cases hz), fun _ => hs, .inl rfl⟩

theorem ER.flatten_len {Rs : Bs} {sz : Nat} {es : List (List AC)} {vss : List (List Value)} (hf : ER w Rs es vss) (hs : ∀ e ∈ es, e.length = sz) : vss.flatten.length = es.length * sz := by
  rw [flat_len (hf.widths hs), hf.length]
theorem ER.any {Rs Rt : Bs} {es : List (List AC)} {vss : List (List Value)} (hf : ER w Rs es vss) (hv : ∀ e ∈ es, ∀ x ∈ e, isV x = true) : ER w Rt es vss := by
  refine Fa.of_get hf.length fun k a b ha hb => ?_
  obtain ⟨b', hb', hr⟩ := hf.get k a ha
  rw [hb] at hb'; cases hb'
  refine Fa.of_get hr.length fun j x u hx hu => ?_
  obtain ⟨u', hu', hr'⟩ := hr.get j x hx
  rw [hu] at hu'; cases hu'
  exact isV_any (hv a (List.mem_of_getElem? ha) x (List.mem_of_getElem? hx)) hr'

theorem bytesIn_ER {Rs : Bs} (b : ByteArray) : ER w Rs (bytesIn b) (b.data.toList.map fun x => [Value.int .u8 x.toNat]) := by
  unfold bytesIn
  induction b.data.toList with
  | nil => exact .nil
  | cons x r ih => exact .cons (.cons (.v rfl) .nil) ih

/-- What is appended, or copied. -/
theorem srcOf_good {hh : Tr Buf} {xT : TypeId} {y : AV} {fy flat : Bool} {oz : Option Nat} {sz : Nat} {ys : List (List AC)} {rd : List Nat} {K : Bool → List (List AC) → Option β} {out : β}
    (hsrc : srcOf P hh xT y = some (fy, oz, ys, rd)) (H : ckK flat sz fy oz ys K = some out) :
    ∃ fy', K fy' ys = some out ∧ ∀ (w : World) (m : Lm) (R Rf : Bs) (hD : Tr Buf) (vy : Value), (∀ i ∈ rd, hD.get i = hh.get i) → Inv B w m R Rf hD → VR w m R Rf y vy →
      ∃ vss, ER w (sel fy' Rf R) ys vss ∧ (∀ e ∈ ys, e.length = sz) ∧ Go.Src P sz xT vy ys.length vss.flatten w ∧
        (∀ n, n ≤ ys.length → (Builtin.firstCells sz n vy).run P w = .ok (vss.flatten.take (n * sz)).toArray w) := by
  obtain ⟨fy', hK, hz1, hz2, hfl⟩ := ckK_spec H
  refine ⟨fy', hK, fun w m R Rf hD vy hag I hy => ?_⟩
  unfold srcOf at hsrc
  split at hsrc
  · rename_i b hu
    cases hsrc
    have := hy.v_inv; subst this
    have h1 : 1 = sz := hz1 1 rfl
    subst h1
    have hfl : (b.data.toList.map fun x => [Value.int .u8 x.toNat]).flatten = byteCells b := by
      unfold byteCells
      induction b.data.toList with
      | nil => rfl
      | cons x r ih => simp at ih ⊢; exact ih
    have hln : (bytesIn b).length = b.size := by simp [bytesIn]
    refine ⟨_, bytesIn_ER b, fun e he => ?_, ?_, fun n hn => ?_⟩
    · obtain ⟨x, _, rfl⟩ := List.mem_map.1 he; rfl
    · rw [hfl, hln]; exact Go.Src.ofString w hu b
    · rw [hfl]
      rw [hln] at hn
      simp only [Builtin.firstCells, Sem.run_pure, byteCells]
      congr 1
      apply Array.ext'
      simp [← List.map_take]
  · rename_i e' x hu
    have hx := hy.c_inv
    obtain ⟨A, cap, z, rfl, hcap, hS, hz⟩ := rowOf_spec hsrc hag I hx
    have fin : ∀ vss : List (List Value), ER w (sel fy Rf R) ys vss → ER w (sel fy' Rf R) ys vss := fun vss hf => by
      rcases hfl with rfl | hv
      · exact hf
      · exact hf.any hv
    rcases hS with rfl | ⟨b, o, rfl, hs, hE⟩
    · refine ⟨[], .nil, by simp, ?_, fun n hn => ?_⟩
      · cases A with
        | none => exact Go.Src.ofNil w hu cap
        | some a => exact Go.Src.ofSlice w hu a 0 cap [] (by simp) (fun j u hj => by simp at hj) (by simp)
      · have : n = 0 := by simpa using hn
        subst this
        cases A <;> simp [Builtin.firstCells, loadCells, loadCellsFrom]
    · obtain ⟨vss, hf, hv⟩ := hE.vals hs
      have hzs : ys = [] ∨ z = sz := by
        cases oz with
        | some z' => right; rw [← hz1 z' rfl, hz z' rfl]
        | none =>
          cases ys with
          | nil => exact .inl rfl
          | cons e r => right; rw [← hs e (by simp), hz2 rfl e (by simp)]
      have hs' : ∀ e ∈ ys, e.length = sz := by
        rcases hzs with rfl | rfl
        · simp
        · exact hs
      refine ⟨vss, fin vss hf, hs', Go.Src.ofSlice w hu _ _ _ _ (hf.flatten_len hs') (fun j u hj => by rw [addr_add]; exact hv j u hj) (fun u hu => by rw [one_scalar]; exact hf.scalars u hu), fun n hn => ?_⟩
      have hlen : (vss.flatten.take (n * sz)).length = n * sz := by
        rw [List.length_take, hf.flatten_len hs']
        exact Nat.min_eq_left (Nat.mul_le_mul_right sz hn)
      simp only [Builtin.firstCells]
      rw [← hlen]
      rw [run_load_at fun k u hk => hv k u ?_]
      · rw [hlen]
      · rw [List.getElem?_take] at hk
        split at hk
        · exact hk
        · cases hk
  · cases hsrc

/-- A slice whose memory is taken over. -/
def Came (B : Base) (w : World) (m : Lm) (R Rf : Bs) (h : Tr Buf) (cl : Bool) (sz : Nat) (es : List (List AC)) (v : Value) : Prop :=
  (es = [] ∧ v = .slice none 0 0) ∨ ∃ b o cap N, v = .slice (some ⟨b, o, none⟩) es.length cap ∧ es.length ≤ cap ∧ Free B w m R h b ∧ Wr w b N ∧ o + cap * sz ≤ N ∧ (∀ e ∈ es, e.length = sz) ∧ EsAt w (sel cl Rf R) b o sz es

theorem Wr.of_shape {b N M : Nat} {t : TypeId} (hW : Wr w b N) (hs : w.shape? b = some (t, M)) : M = N := by
  obtain ⟨t', h'⟩ := hW.shape
  rw [h'] at hs; cases hs; rfl

theorem came_ref {id : Nat} {cl : Bool} {sz : Nat} {es : List (List AC)} {v : Value} (I : Inv B w m R Rf h) (hg : h.get id = some (.row cl sz es)) (hv : CR w m R Rf (.ref id) v) : Came B w m R Rf (h.del id) cl sz es v := by
  rcases I.br id _ hg with ⟨rfl, hm'⟩ | ⟨b, base, N, hm', hW, hN, hs, hE⟩
  · cases hv with
    | ref0 _ => exact .inl ⟨rfl, rfl⟩
    | ref hm2 _ _ _ => rw [hm'] at hm2; cases hm2
  · cases hv with
    | ref0 hm2 => rw [hm'] at hm2; cases hm2
    | ref hm2 hn hsh hc =>
      rw [hm'] at hm2; cases hm2
      have := hW.of_shape hsh
      subst this
      exact .inr ⟨_, _, _, _, rfl, hn, I.free ⟨_, hg, by simp⟩ (by simp [blk, hm', Loc.blk]), hW, hc, hs, hE⟩
theorem came_sub {id off len : Nat} {cl : Bool} {sz : Nat} {es : List (List AC)} {v : Value} (I : Inv B w m R Rf h) (hg : h.get id = some (.row cl sz es)) (hv : CR w m R Rf (.sub id off len) v) :
    Came B w m R Rf (h.del id) cl sz ((es.drop off).take len) v ∧ ((es.drop off).take len).length = len := by
  rcases I.br id _ hg with ⟨rfl, hm'⟩ | ⟨b, base, N, hm', hW, hN, hs, hE⟩
  · cases hv with
    | sub0 _ => exact ⟨.inl ⟨by simp, rfl⟩, by simp⟩
    | subE hm2 _ _ _ => rw [hm'] at hm2; cases hm2
    | sub hm2 _ _ _ _ => rw [hm'] at hm2; cases hm2
  · have F := I.free (id := id) (b := b) ⟨_, hg, by simp⟩ (by simp [blk, hm', Loc.blk])
    cases hv with
    | sub0 hm2 => rw [hm'] at hm2; cases hm2
    | subE hm2 hn hsh ho =>
      rw [hm'] at hm2; cases hm2
      have := hW.of_shape hsh
      subst this
      refine ⟨.inr ⟨_, _, 0, _, by rw [List.take_zero]; rfl, by simp, F, hW, by omega, by simp, ?_⟩, by simp⟩
      intro i e he
      simp at he
    | sub hm2 hn hl hsh hc =>
      rw [hm'] at hm2; cases hm2
      have := hW.of_shape hsh
      subst this
      have hlen : ((es.drop off).take len).length = len := by simp; omega
      refine ⟨.inr ⟨_, _, _, _, by rw [hlen], by rw [hlen]; exact hl, F, hW, ?_, fun e he => hs e (part_mem he), hE.part off len⟩, hlen⟩
      rw [Nat.add_mul] at hc; omega

theorem growBy_le (n c : Nat) (h : c < n) : Builtin.growBy n 4 c ≤ n + n / 4 + 1024 := by
  have key : ∀ r c, c < n + n / 4 + 193 → Builtin.growBy n r c ≤ n + n / 4 + 1024 := by
    intro r
    induction r with
    | zero => intro c hc; unfold Builtin.growBy; omega
    | succ r ih =>
      intro c hc
      unfold Builtin.growBy
      split
      · omega
      · exact ih _ (by omega)
  exact key 4 c (by omega)
theorem nextcap_le {need old : Nat} (h : old < need) : Builtin.nextslicecap need old ≤ need + need / 4 + 1024 := by
  unfold Builtin.nextslicecap
  split
  · omega
  · split
    · omega
    · exact growBy_le _ _ h

theorem RowsAt.of_flat {Rs : Bs} {sz : Nat} {es : List (List AC)} {vss : List (List Value)} {c : Array Value} (hf : ER w Rs es vss) (hs : ∀ e ∈ es, e.length = sz) (hc : ∀ (j : Nat) (u : Value), vss.flatten[j]? = some u → c[j]? = some u) : RowsAt w Rs sz es c := by
  intro i e he k x hx
  obtain ⟨v, hv, hr⟩ := hf.get i e he
  obtain ⟨u, hu, hru⟩ := hr.get k x hx
  exact ⟨u, hc _ _ (flat_get (hf.widths hs) i k v u hv hu), hru⟩
end Go.AM

namespace Go.AM
open Go.RowKit

variable {B : Base} {w w' : World} {m : Lm} {R Rf : Bs} {h : Tr Buf} {P : Program} {β : Type}

theorem More.drew (w : World) : More w w.drew := ⟨Nat.le_refl _, fun _ _ => rfl, rfl, rfl, rfl⟩

theorem growT_spec {t : TypeId} (h : growT P t = true) : ∃ i z, P.info? t = some i ∧ i.zero = some z ∧ 1 ≤ i.bytes ∧ z.cells.size = i.size := by
  unfold growT at h
  split at h
  · rename_i i hi
    split at h
    · rename_i z hz hb
      refine ⟨i, z, hi, hz, ?_, Nat.eq_of_beq_eq_true h⟩
      rcases Nat.eq_zero_or_pos i.bytes with h0 | h0
      · rw [h0] at hb; cases hb
      · exact h0
    · cases h
  · cases h

theorem zeroCells_size (z : Array Value) (n : Nat) : (Builtin.zeroCells z n).size = n * z.size := by simp [Builtin.zeroCells]

theorem ER.mono' {Rs Rt : Bs} {es : List (List AC)} {vss : List (List Value)} (hf : ER w Rs es vss) (E : Ext w w' noL noL Rs Rt Rs Rt) : ER w' Rt es vss := Fa.mono (fun _ _ hr => Fa.mono (fun _ _ hr => hr.mono E) hr) hf

theorem append_good {id : Nat} {sT xT ty e : TypeId} {cl fy : Bool} {es ys : List (List AC)} {vx vy : Value} {vss : List (List Value)} (hg : growT P e = true) (hu : P.underlying sT = some (.slice e)) (hfit : fitsB (es.length + ys.length) (P.bytesOf e) = true)
    (I : Inv B w m R Rf h) (hp : B.p ≤ id) (hm : m id = none) (hC : Came B w m R Rf h cl (P.cellsOf e) es vx)
    (hy : ER w (sel fy Rf R) ys vss) (hsz : ∀ e' ∈ ys, e'.length = P.cellsOf e) (hS : Go.Src P (P.cellsOf e) xT vy ys.length vss.flatten w) :
    ∃ val w', (Builtin.append_ #[sT, xT] ty #[vx, vy]).run P w = .ok val w' ∧ Post B id [(id, some (.row (cl && fy) (P.cellsOf e) (es ++ ys)))] h (.c (.ref id)) w m R Rf val w' := by
  obtain ⟨i, z, hi, hz, hb, hzs⟩ := growT_spec hg
  have hbi := bytes_info hi
  have hci := cells_info hi
  have hy' : ER w (sel (cl && fy) Rf R) ys vss := hy.mono' (ExtS (sel_and' I.sub cl fy))
  rw [hci] at hS
  -- what grows
  have grow : ∀ (A : Option Addr) (cap : Nat) (vse : List (List Value)), vx = .slice A es.length cap → cap < es.length + ys.length → ER w (sel (cl && fy) Rf R) es vse → (∀ e' ∈ es, e'.length = P.cellsOf e) →
      (Builtin.firstCells i.size es.length (.slice A es.length cap)).run P w.drew = .ok vse.flatten.toArray w.drew →
      ∃ val w', (Builtin.append_ #[sT, xT] ty #[vx, vy]).run P w = .ok val w' ∧ Post B id [(id, some (.row (cl && fy) (P.cellsOf e) (es ++ ys)))] h (.c (.ref id)) w m R Rf val w' := by
    intro A cap vse hv hlt hf hs hold
    subst hv
    simp only [fitsB, decide_eq_true_eq] at hfit
    have h1 := nextcap_le hlt
    have hfit2 : Builtin.nextslicecap (es.length + ys.length) cap * i.bytes ≤ 281474976710656 := by
      refine Nat.le_trans (Nat.mul_le_mul_right _ h1) ?_
      rw [← hbi]; exact hfit
    have h63 : ((es.length + ys.length : Nat) : Int) ≤ 9223372036854775807 := by
      have h2 := le_nextslicecap hlt
      have h3 := Nat.mul_le_mul_left (Builtin.nextslicecap (es.length + ys.length) cap) hb
      omega
    have hrun := run_append_grow_src (P := P) w sT xT ty e i z hu hi hz A es.length cap vse.flatten hold vy ys.length vss.flatten hS hlt h63 hfit2
    refine ⟨_, _, hrun, ?_⟩
    obtain ⟨I2, E2⟩ := I.more (More.drew w)
    have hcap := grownCap_ge w (es.length + ys.length) cap e
    have hall : ER w.drew (sel (cl && fy) Rf R) (es ++ ys) (vse ++ vss) := ER.mono' (Fa.append hf hy') (E2.sel _)
    have hws : ∀ e' ∈ es ++ ys, e'.length = P.cellsOf e := fun e' he' => (List.mem_append.1 he').elim (hs e') (hsz e')
    have hl : (vse ++ vss).flatten.length = (es.length + ys.length) * P.cellsOf e := by rw [hall.flatten_len hws, List.length_append]
    have hrows : RowsAt w.drew (sel (cl && fy) Rf R) (P.cellsOf e) (es ++ ys) ((vse.flatten ++ vss.flatten).toArray ++ Builtin.zeroCells z.cells (grownCap w (es.length + ys.length) cap e - (es.length + ys.length))) :=
      RowsAt.of_flat hall hws fun j u hu => by
        rw [List.flatten_append] at hu
        have hj : j < (vse.flatten ++ vss.flatten).length := (List.getElem?_eq_some_iff.1 hu).1
        rw [Array.getElem?_append_left (by simpa using hj)]
        simpa using hu
    have hP := Post.rowAt (t' := e) (id := id) (cap := grownCap w (es.length + ys.length) cap e) I2 hp hm hrows hws (by rw [List.length_append]; exact hcap) (by
      rw [Array.size_append, zeroCells_size, hzs, ← hci, List.size_toArray, ← List.flatten_append, hl, ← Nat.add_mul]
      exact Nat.mul_le_mul_right _ (by omega))
    obtain ⟨m2, R2, Rf2, a, b, c, d⟩ := hP
    rw [List.length_append] at b
    exact ⟨m2, R2, Rf2, a, b, E2.trans c, d⟩
  rcases hC with ⟨rfl, rfl⟩ | ⟨b, o, cap, N, rfl, hcap, F, hW, hN, hs, hE⟩
  · by_cases h0 : ys.length = 0
    · have : ys = [] := List.eq_nil_of_length_eq_zero h0
      subst this
      cases hy
      refine ⟨.slice none 0 0, w, ?_, Post.nilRow I hp hm⟩
      have hcl := hS.cells
      have hln := hS.len w
      simp only [List.length_nil] at hcl hln
      rcases hS.kind with ⟨e', hk⟩ | hk <;> simp [Builtin.append_, run_underlying hu, run_underlying hk, sizeOf, typeInfo, hi, hln, hcl]
    · exact grow none 0 [] rfl (by simp; omega) .nil (by simp) (by simp [Builtin.firstCells])
  · obtain ⟨vse, hf, hv⟩ := hE.vals hs
    by_cases hroom : es.length + ys.length ≤ cap
    · have hyl := hy.flatten_len hsz
      have hin : (es.length + ys.length) * P.cellsOf e ≤ cap * P.cellsOf e := Nat.mul_le_mul_right _ hroom
      rw [Nat.add_mul] at hin
      have hrun := run_append_room_src (P := P) w sT xT ty e i hu hi b o es.length cap vy ys.length vss.flatten hS hroom
        (fun j hj => by obtain ⟨u, hu⟩ := hW.cell (o := o + es.length * i.size + j) (by rw [← hci]; omega); simp [hu]) (fun j hj => hW.frozen (by rw [← hci]; omega))
      refine ⟨_, _, hrun, ?_⟩
      rw [← hci]
      have U := But.setCells b vss.flatten (o + es.length * P.cellsOf e) w
      have E : Ext w (w.setCells b (o + es.length * P.cellsOf e) vss.flatten) m m R R Rf Rf := ⟨fun k hk => U.heap k fun e => F.dis (e ▸ hk), fun _ => _root_.id, fun _ => _root_.id, I.sub, fun _ _ => _root_.id, U.sh⟩
      have hws : ∀ e' ∈ es ++ ys, e'.length = P.cellsOf e := fun e' he' => (List.mem_append.1 he').elim (hs e') (hsz e')
      have hf' : ER w (sel (cl && fy) Rf R) es vse := hf.mono' (ExtS (sel_and I.sub cl fy))
      have hall : ER (w.setCells b (o + es.length * P.cellsOf e) vss.flatten) (sel (cl && fy) Rf R) (es ++ ys) (vse ++ vss) := ER.mono' (Fa.append hf' hy') (E.sel _)
      have hel := hf.flatten_len hs
      obtain ⟨I', E'⟩ := I.adopt (m' := updM m id (.row b o (P.cellsOf e) (es ++ ys).length)) (l := .row b o (P.cellsOf e) (es ++ ys).length) (x := .row (cl && fy) (P.cellsOf e) (es ++ ys)) F U (.inl hp) (updM_same _ _ _) rfl (.inl hm) (fun i hi => updM_ne m _ hi) (by
        refine .inr ⟨b, o, N, updM_same _ _ _, Wr.setCells _ _ _ hW, by rw [List.length_append, Nat.add_mul]; omega, hws, ?_⟩
        refine EsAt.of_flat hall hws fun j u hj => ?_
        rw [cell_setCells hW (by omega)]
        rw [List.flatten_append] at hj
        by_cases hjl : j < vse.flatten.length
        · rw [List.getElem?_append_left hjl] at hj
          rw [if_neg (by omega)]
          exact hv j u hj
        · rw [List.getElem?_append_right (by omega)] at hj
          have hj2 : j - vse.flatten.length < vss.flatten.length := (List.getElem?_eq_some_iff.1 hj).1
          rw [if_pos (by omega), show o + j - (o + es.length * P.cellsOf e) = j - vse.flatten.length by omega]
          exact hj)
      obtain ⟨t, hsh⟩ := hW.shape
      refine ⟨_, R, Rf, I', ?_, E', fun i hi => updM_ne m _ hi⟩
      have := CR.ref (w := w.setCells b (o + es.length * P.cellsOf e) vss.flatten) (m := updM m id (.row b o (P.cellsOf e) (es ++ ys).length)) (R := R) (Rf := Rf) (id := id) (cap := cap) (updM_same _ _ _) (by rw [List.length_append]; exact hroom) (U.sh _ _ _ hsh) hN
      exact .c (by rwa [show (es ++ ys).length = es.length + ys.length from List.length_append] at this ⊢)
    · refine grow (some ⟨b, o, none⟩) cap vse rfl (by omega) (hf.mono' (ExtS (sel_and I.sub cl fy))) hs ?_
      have hel := hf.flatten_len hs
      simp only [Builtin.firstCells]
      rw [← hci, ← hel]
      exact run_load_at fun k u hk => by simpa using hv k u hk

theorem Post.del {id j : Nat} {U : List (Nat × Option Buf)} {hD : Tr Buf} {v : AV} {val : Value} (H : Post B id U (hD.del j) v w m R Rf val w') : Post B id ((j, none) :: U) hD v w m R Rf val w' := H

theorem appendK_good {st : Bool} {id : Nat} {sT xT : TypeId} {x y : AV} {s : S} {K : KT β} {out : β} (H : appendK st P id sT xT x y s K = some out) :
    ∃ v U rd wr, K v { s with h := applyU U s.h } rd wr = some out ∧ ∀ ty vx vy, Does B P id U s.h rd wr v (fun w m R Rf => VR w m R Rf x vx ∧ VR w m R Rf y vy) fun _ => Builtin.append_ #[sT, xT] ty #[vx, vy] := by
  unfold appendK at H
  split at H
  · rename_i e x fy oz ys rd he hsrc
    obtain ⟨hu, inf, hinf⟩ := elemT_spec he
    split at H
    · cases H
    · rename_i hg
      obtain ⟨fy', hK, hsp⟩ := srcOf_good (B := B) hsrc H
      clear H
      split at hK
      · have H1 := itet_some hK
        clear hK
        obtain ⟨hfit, hK⟩ := H1
        rw [putH_eq] at hK
        refine ⟨_, [(id, some (.row fy' (P.cellsOf e) ys))], rd, [], hK, fun ty vx vy => ⟨by simp, fun w m R Rf hD hx hag hp hm I => ?_⟩⟩
        have := hx.1.v_inv; subst this
        obtain ⟨vss, h1, h2, h3, _⟩ := hsp w m R Rf hD vy (fun i hi => hag i (by simp [hi])) I hx.2
        exact append_good (es := []) (cl := true) hg hu (by simpa using hfit) I hp hm (.inl ⟨rfl, rfl⟩) h1 h2 h3
      · rename_i j
        split at hK
        · rename_i cl sz es hget
          split at hK
          · rename_i hsz
            have hsz := Nat.eq_of_beq_eq_true hsz
            have H1 := itet_some hK
            clear hK
            obtain ⟨hfit, hK⟩ := H1
            rw [delH_eq, putH_eq] at hK
            refine ⟨_, [(j, none), (id, some (.row (cl && fy') sz (es ++ ys)))], rd, [j], hK, fun ty vx vy => ⟨by simp, fun w m R Rf hD hx hag hp hm I => ?_⟩⟩
            obtain ⟨vss, h1, h2, h3, _⟩ := hsp w m R Rf hD vy (fun i hi => hag i (by simp [hi])) I hx.2
            have hgD := (hag j (by simp)).trans hget
            have hC := came_ref I hgD hx.1.c_inv
            subst hsz
            obtain ⟨val, w', r1, r2⟩ := append_good (ty := ty) hg hu hfit (I.del j) hp hm hC h1 h2 h3
            exact ⟨val, w', r1, r2.del⟩
          · cases hK
        · cases hK
      · rename_i j off len
        split at hK
        · rename_i cl sz es hget
          split at hK
          · rename_i hsz
            have hsz := Nat.eq_of_beq_eq_true hsz
            have H1 := itet_some hK
            clear hK
            obtain ⟨hfit, hK⟩ := H1
            rw [delH_eq, putH_eq] at hK
            refine ⟨_, [(j, none), (id, some (.row (cl && fy') sz ((es.drop off).take len ++ ys)))], rd, [j], hK, fun ty vx vy => ⟨by simp, fun w m R Rf hD hx hag hp hm I => ?_⟩⟩
            obtain ⟨vss, h1, h2, h3, _⟩ := hsp w m R Rf hD vy (fun i hi => hag i (by simp [hi])) I hx.2
            have hgD := (hag j (by simp)).trans hget
            obtain ⟨hC, hlen⟩ := came_sub I hgD hx.1.c_inv
            subst hsz
            obtain ⟨val, w', r1, r2⟩ := append_good (ty := ty) hg hu (by rw [hlen]; exact hfit) (I.del j) hp hm hC h1 h2 h3
            exact ⟨val, w', r1, r2.del⟩
          · cases hK
        · cases hK
      · cases hK
  · cases H
end Go.AM

namespace Go.AM
open Go.RowKit

variable {B : Base} {w w' : World} {m : Lm} {R Rf : Bs} {h : Tr Buf} {P : Program} {β : Type}

/-- A stretch of a row of the own is written. -/
theorem Inv.stretch {id b base N sz off : Nat} {cl fy : Bool} {es ys : List (List AC)} {vss : List (List Value)} (I : Inv B w m R Rf h) (hg : h.get id = some (.row cl sz es)) (hm : m id = some (.row b base sz es.length)) (hW : Wr w b N)
    (hN : base + es.length * sz ≤ N) (hs : ∀ e ∈ es, e.length = sz) (hE : EsAt w (sel cl Rf R) b base sz es) (hy : ER w (sel fy Rf R) ys vss) (hsz : ∀ e ∈ ys, e.length = sz) (ho : off + ys.length ≤ es.length) :
    Inv B (w.setCells b (base + off * sz) vss.flatten) m R Rf (h.set id (.row (cl && fy) sz (es.take off ++ (ys ++ es.drop (off + ys.length))))) ∧ Ext w (w.setCells b (base + off * sz) vss.flatten) m m R R Rf Rf := by
  have U := But.setCells b vss.flatten (base + off * sz) w
  refine I.write ⟨_, hg, by simp⟩ hm rfl U fun E => ?_
  have hlen : (es.take off ++ (ys ++ es.drop (off + ys.length))).length = es.length := by simp; omega
  have hyl := hy.flatten_len hsz
  have hin : (off + ys.length) * sz ≤ es.length * sz := Nat.mul_le_mul_right sz ho
  rw [Nat.add_mul] at hin
  refine .inr ⟨b, base, N, by rw [hlen]; exact hm, Wr.setCells _ _ _ hW, by rw [hlen]; exact hN, fun e he => ?_, fun i e he k x hx => ?_⟩
  · rcases List.mem_append.1 he with h1 | h1
    · exact hs e (List.mem_of_mem_take h1)
    · rcases List.mem_append.1 h1 with h2 | h2
      · exact hsz e h2
      · exact hs e (List.mem_of_mem_drop h2)
  · rw [cell_setCells hW (by omega)]
    have hold : ∀ e, es[i]? = some e → e[k]? = some x → (i < off ∨ off + ys.length ≤ i) → ∃ u, (if base + off * sz ≤ base + i * sz + k ∧ base + i * sz + k < base + off * sz + vss.flatten.length then vss.flatten[base + i * sz + k - (base + off * sz)]? else w.cell? ⟨b, base + i * sz + k, none⟩) = some u ∧
        CR (w.setCells b (base + off * sz) vss.flatten) noL (sel (cl && fy) Rf R) (sel (cl && fy) Rf R) x u := by
      intro e he hx hi
      obtain ⟨u, hu, hr⟩ := hE i e he k x hx
      have hk : k < sz := by rw [← hs e (List.mem_of_getElem? he)]; exact (List.getElem?_eq_some_iff.1 hx).1
      refine ⟨u, ?_, (hr.weak (sel_and I.sub cl fy)).mono (E.sel (cl && fy))⟩
      rw [if_neg]
      · exact hu
      · intro hc
        rcases hi with hlt | hge
        · have : i * sz + sz ≤ off * sz := by rw [← Nat.succ_mul]; exact Nat.mul_le_mul_right sz hlt
          omega
        · have : (off + ys.length) * sz ≤ i * sz := Nat.mul_le_mul_right sz hge
          rw [Nat.add_mul] at this
          omega
    rw [List.getElem?_append] at he
    have htl : (es.take off).length = off := by simp; omega
    rw [htl] at he
    split at he
    · rename_i hlt
      rw [List.getElem?_take_of_lt hlt] at he
      exact hold e he hx (.inl hlt)
    · rename_i hge
      rw [List.getElem?_append] at he
      split at he
      · rename_i hlt
        obtain ⟨v, hv, hr⟩ := hy.get _ _ he
        obtain ⟨u, hu, hru⟩ := hr.get k x hx
        have hk : k < sz := by rw [← hsz e (List.mem_of_getElem? he)]; exact (List.getElem?_eq_some_iff.1 hx).1
        have hfl := flat_get (hy.widths hsz) (i - off) k v u hv hu
        have h1 : off * sz ≤ i * sz := Nat.mul_le_mul_right sz (by omega)
        have h2 : (i - off) * sz + sz ≤ ys.length * sz := by rw [← Nat.succ_mul]; exact Nat.mul_le_mul_right sz hlt
        have h3 : (i - off) * sz = i * sz - off * sz := Nat.sub_mul ..
        refine ⟨u, ?_, (hru.weak (sel_and' I.sub cl fy)).mono (E.sel (cl && fy))⟩
        rw [if_pos (by omega), show base + i * sz + k - (base + off * sz) = (i - off) * sz + k by omega]
        exact hfl
      · rename_i hge2
        rw [List.getElem?_drop] at he
        refine hold e ?_ hx (.inr (by omega))
        rw [← he]; congr 1; omega

/-- An empty row, without memory. -/
theorem Inv.restNil {id sz sz' : Nat} {cl cl' : Bool} (I : Inv B w m R Rf h) (hm : m id = some .nil) : Inv B w m R Rf (h.set id (.row cl' sz' [])) ∧ Ext w w m m R R Rf Rf :=
  I.name (l := .nil) (.inr hm) hm rfl (.inr hm) (fun _ _ => rfl) (.inl ⟨rfl, hm⟩)

theorem ER.take {Rs : Bs} {sz : Nat} {es : List (List AC)} {vss : List (List Value)} (hf : ER w Rs es vss) (hs : ∀ e ∈ es, e.length = sz) (n : Nat) (hn : n ≤ es.length) : ∃ vss', ER w Rs (es.take n) vss' ∧ vss'.flatten = vss.flatten.take (n * sz) := by
  refine ⟨vss.take n, Fa.take hf n, ?_⟩
  have hw := hf.widths hs
  have hl := hf.length
  rw [← List.take_append_drop n vss, List.flatten_append, List.take_append_drop]
  have : ((vss.take n).flatten).length = n * sz := by
    rw [flat_len (fun v hv => hw v (List.mem_of_mem_take hv))]
    congr 1; simp; omega
  rw [← this, List.take_left]

theorem run_copy {dT sT ty e : TypeId} {inf : TypeInfo} (hu : P.underlying dT = some (.slice e)) (hi : P.info? e = some inf) {A : Option Addr} {len cap n : Nat} {vy : Value} {cells : List Value} (hl : (Builtin.lenOf vy).run P w = .ok n w)
    (hc : (Builtin.firstCells (P.cellsOf e) (min n len) vy).run P w = .ok cells.toArray w) {w' : World} (hs : (∃ a, A = some a ∧ (storeCells a cells).run P w = .ok () w') ∨ (A = none ∧ w' = w)) :
    (Builtin.copy_ #[dT, sT] ty #[.slice A len cap, vy]).run P w = .ok (.int .i64 (min n len : Nat)) w' := by
  have hm : Nat.min n len = min n len := rfl
  rcases hs with ⟨a, rfl, hs⟩ | ⟨rfl, rfl⟩
  · simp [Builtin.copy_, run_underlying hu, hl, run_size hi, hm, hc, hs, goInt]
  · simp [Builtin.copy_, run_underlying hu, hl, run_size hi, hm, hc, goInt]

theorem copyK_good {st : Bool} {id : Nat} {dT sT : TypeId} {x y : AV} {s : S} {K : KT β} {out : β} (H : copyK st P dT sT x y s K = some out) :
    ∃ v U rd wr, K v { s with h := applyU U s.h } rd wr = some out ∧ ∀ ty vx vy, Does B P id U s.h rd wr v (fun w m R Rf => VR w m R Rf x vx ∧ VR w m R Rf y vy) fun _ => Builtin.copy_ #[dT, sT] ty #[vx, vy] := by
  unfold copyK at H
  split at H
  · rename_i e x fy oz ys rd he hsrc
    obtain ⟨hu, inf, hinf⟩ := elemT_spec he
    obtain ⟨fy', hK, hsp⟩ := srcOf_good (B := B) hsrc H
    clear H
    split at hK
    · rename_i j
      split at hK
      · rename_i cl sz es hget
        split at hK
        · rename_i hsz
          have hsz := Nat.eq_of_beq_eq_true hsz
          subst hsz
          rw [putH_eq] at hK
          refine ⟨_, [(j, some (.row (cl && fy') (P.cellsOf e) (ys.take es.length ++ es.drop ys.length)))], rd, [j], hK, fun ty vx vy => ⟨by simp, fun w m R Rf hD hx hag hp hm I => ?_⟩⟩
          obtain ⟨vss, h1, h2, h3, h4⟩ := hsp w m R Rf hD vy (fun i hi => hag i (by simp [hi])) I hx.2
          have hgD := (hag j (by simp)).trans hget
          have hl := h3.len w
          obtain ⟨vss', t1, t2⟩ := h1.take h2 (min ys.length es.length) (by omega)
          have hfc := h4 (min ys.length es.length) (by omega)
          rw [← t2] at hfc
          have htk : ys.take es.length = ys.take (min ys.length es.length) := by
            rw [List.take_eq_take_iff]; omega
          have hdr : es.drop ys.length = es.drop (0 + (ys.take (min ys.length es.length)).length) := by
            rw [List.length_take, Nat.zero_add]
            by_cases hle : ys.length ≤ es.length
            · congr 1; omega
            · rw [List.drop_of_length_le (by omega), List.drop_of_length_le (by omega)]
          rcases I.br j _ hgD with ⟨rfl, hm'⟩ | ⟨b, base, N, hm', hW, hN, hs, hE⟩
          · cases hx.1.c_inv with
            | ref hm2 _ _ _ => rw [hm'] at hm2; cases hm2
            | ref0 _ =>
              obtain ⟨I', E'⟩ := I.restNil (sz := P.cellsOf e) (cl := cl) (cl' := cl && fy') (sz' := P.cellsOf e) hm'
              refine ⟨_, _, run_copy hu hinf hl hfc (.inr ⟨rfl, rfl⟩), m, R, Rf, ?_, .int, E', fun _ _ => rfl⟩
              simpa [applyU] using I'
          · cases hx.1.c_inv with
            | ref0 hm2 => rw [hm'] at hm2; cases hm2
            | ref hm2 hn hsh hc =>
              rw [hm'] at hm2; cases hm2
              have hl2 : (ys.take (min ys.length es.length)).length ≤ es.length := by simp; omega
              have hfl := t1.flatten_len (fun e he => h2 e (List.mem_of_mem_take he))
              have hin : (ys.take (min ys.length es.length)).length * P.cellsOf e ≤ es.length * P.cellsOf e := Nat.mul_le_mul_right _ hl2
              obtain ⟨I', E'⟩ := I.stretch (off := 0) hgD hm' hW hN hs hE t1 (fun e he => h2 e (List.mem_of_mem_take he)) (by omega)
              refine ⟨_, _, run_copy hu hinf hl hfc (.inl ⟨_, rfl, run_store_wr hW (by omega) t1.scalars⟩), m, R, Rf, ?_, .int, by simpa using E', fun _ _ => rfl⟩
              rw [← htk, htk] at I'
              simp only [applyU]
              rw [htk, hdr]
              simpa using I'
        · cases hK
      · cases hK
    · rename_i j off len
      split at hK
      · rename_i cl sz es hget
        split at hK
        · rename_i hsz
          have hsz := Nat.eq_of_beq_eq_true hsz
          subst hsz
          have H1 := itet_some hK
          clear hK
          obtain ⟨hol, hK⟩ := H1
          simp only [decide_eq_true_eq] at hol
          rw [putH_eq] at hK
          refine ⟨_, [(j, some (.row (cl && fy') (P.cellsOf e) (es.take off ++ (ys.take len ++ es.drop (off + min ys.length len)))))], rd, [j], hK, fun ty vx vy => ⟨by simp, fun w m R Rf hD hx hag hp hm I => ?_⟩⟩
          obtain ⟨vss, h1, h2, h3, h4⟩ := hsp w m R Rf hD vy (fun i hi => hag i (by simp [hi])) I hx.2
          have hgD := (hag j (by simp)).trans hget
          have hl := h3.len w
          obtain ⟨vss', t1, t2⟩ := h1.take h2 (min ys.length len) (by omega)
          have hfc := h4 (min ys.length len) (by omega)
          rw [← t2] at hfc
          have htk : ys.take len = ys.take (min ys.length len) := by
            rw [List.take_eq_take_iff]; omega
          have hlt : (ys.take (min ys.length len)).length = min ys.length len := by rw [List.length_take]; omega
          rcases I.br j _ hgD with ⟨rfl, hm'⟩ | ⟨b, base, N, hm', hW, hN, hs, hE⟩
          · cases hx.1.c_inv with
            | subE hm2 _ _ _ => rw [hm'] at hm2; cases hm2
            | sub hm2 _ _ _ _ => rw [hm'] at hm2; cases hm2
            | sub0 _ =>
              obtain ⟨I', E'⟩ := I.restNil (sz := P.cellsOf e) (cl := cl) (cl' := cl && fy') (sz' := P.cellsOf e) hm'
              refine ⟨_, _, run_copy hu hinf hl hfc (.inr ⟨rfl, rfl⟩), m, R, Rf, ?_, .int, E', fun _ _ => rfl⟩
              simpa [applyU] using I'
          · have t1s : ∀ e' ∈ ys.take (min ys.length len), e'.length = P.cellsOf e := fun e he => h2 e (List.mem_of_mem_take he)
            have hfl := t1.flatten_len t1s
            obtain ⟨I', E'⟩ := I.stretch (off := off) hgD hm' hW hN hs hE t1 t1s (by omega)
            rw [hlt] at I'
            have hin : (off + min ys.length len) * P.cellsOf e ≤ es.length * P.cellsOf e := Nat.mul_le_mul_right _ (by omega)
            rw [Nat.add_mul] at hin
            rw [hlt] at hfl
            cases hx.1.c_inv with
            | sub0 hm2 => rw [hm'] at hm2; cases hm2
            | subE hm2 hn hsh ho =>
              rw [hm'] at hm2; cases hm2
              have h0 : min ys.length 0 = 0 := by omega
              have hnil : vss'.flatten = [] := List.eq_nil_of_length_eq_zero (by rw [hfl, h0, Nat.zero_mul])
              rw [hnil] at hfc I' E'
              refine ⟨_, w, run_copy hu hinf hl hfc (.inl ⟨_, rfl, rfl⟩), m, R, Rf, ?_, .int, E', fun _ _ => rfl⟩
              simp only [applyU]
              rw [htk]
              exact I'
            | sub hm2 hn hl2 hsh hc =>
              rw [hm'] at hm2; cases hm2
              refine ⟨_, _, run_copy hu hinf hl hfc (.inl ⟨_, rfl, run_store_wr hW (by omega) t1.scalars⟩), m, R, Rf, ?_, .int, E', fun _ _ => rfl⟩
              simp only [applyU]
              rw [htk]
              exact I'
        · cases hK
      · cases hK
    · cases hK
  · cases H
end Go.AM

namespace Go.AM
open Go.RowKit

variable {B : Base} {w w' : World} {m : Lm} {R Rf : Bs} {h : Tr Buf} {P : Program} {β : Type}

def zeroList (zc : Array Value) (n : Nat) : List Value := (Builtin.zeroCells zc n).toList
theorem zeroList_eq (zc : Array Value) (n : Nat) : zeroList zc n = (List.replicate n zc.toList).flatten := by
  unfold zeroList
  apply List.ext_getElem?
  intro j
  have hl : ((List.replicate n zc.toList).flatten).length = n * zc.size := by simp
  by_cases hj : j < n * zc.size
  · have hpos : 0 < zc.size := by
      rcases Nat.eq_zero_or_pos zc.size with h0 | h0
      · rw [h0, Nat.mul_zero] at hj; omega
      · exact h0
    have hq : j / zc.size < n := Nat.div_lt_of_lt_mul (by rw [Nat.mul_comm]; exact hj)
    have hr : j % zc.size < zc.size := Nat.mod_lt _ hpos
    have hw : ∀ v ∈ List.replicate n zc.toList, v.length = zc.size := fun v hv => by rw [List.eq_of_mem_replicate hv]; simp
    have := flat_get hw (j / zc.size) (j % zc.size) zc.toList zc[j % zc.size] (by simp [hq]) (by simp [hr])
    rw [show j / zc.size * zc.size + j % zc.size = j by rw [Nat.mul_comm]; exact Nat.div_add_mod j zc.size] at this
    rw [this, Array.getElem?_toList]
    simp [Builtin.zeroCells, hj, hr]
  · rw [List.getElem?_eq_none (by simp [zeroCells_size]; omega), List.getElem?_eq_none (by omega)]

theorem zeroER {Rs : Bs} {vs : List Value} (hs : ∀ x ∈ vs, scalarV x = true) (n : Nat) : ER w Rs (List.replicate n (closeZ (vs.map .v))) (List.replicate n vs) := by
  induction n with
  | zero => exact .nil
  | succ n ih => simp only [List.replicate_succ]; exact .cons (closeZ_fa hs) ih

theorem run_clear {t ty e : TypeId} {inf : TypeInfo} {z : Value} (hu : P.underlying t = some (.slice e)) (hi : P.info? e = some inf) (hz : inf.zero = some z) {A : Option Addr} {n cap : Nat} {w' : World}
    (hs : (n = 0 ∧ w' = w) ∨ ∃ a, A = some a ∧ (storeCells a (zeroList z.cells n)).run P w = .ok () w') :
    (Builtin.clear_ #[t] ty #[.slice A n cap]).run P w = .ok (.tuple #[]) w' := by
  rcases hs with ⟨rfl, rfl⟩ | ⟨a, rfl, hs⟩
  · cases A <;> simp [Builtin.clear_, run_underlying hu]
  · cases n with
    | zero =>
      have : zeroList z.cells 0 = [] := by rw [zeroList_eq]; simp
      rw [this] at hs
      have e : w' = w := by
        have h2 : (storeCells a []).run P w = .ok () w := rfl
        rw [h2] at hs; cases hs; rfl
      subst e
      simp [Builtin.clear_, run_underlying hu]
    | succ n =>
      have hs' : (storeCells a (Builtin.zeroCells z.cells (n + 1)).toList).run P w = .ok () w' := hs
      simp [Builtin.clear_, run_underlying hu, run_zero hi hz, hs']

theorem clearK_good {st : Bool} {id : Nat} {t : TypeId} {x : AV} {s : S} {K : KT β} {out : β} (H : clearK st P t x s K = some out) :
    ∃ v U rd wr, K v { s with h := applyU U s.h } rd wr = some out ∧ ∀ ty vx, Does B P id U s.h rd wr v (fun w m R Rf => VR w m R Rf x vx) fun _ => Builtin.clear_ #[t] ty #[vx] := by
  unfold clearK at H
  split at H
  · rename_i e x he
    obtain ⟨hu, inf, hinf⟩ := elemT_spec he
    split at H
    · rename_i z hz
      obtain ⟨i, zv, hi, hz1, rfl, hzs, hn⟩ := zeroCs_spec hz
      rw [hinf] at hi; cases hi
      have hzl : ∀ n, ∀ e' ∈ List.replicate n (closeZ (zv.cells.toList.map .v)), e'.length = P.cellsOf e := fun n e' he' => by rw [List.eq_of_mem_replicate he', closeZ_length]; simpa using hn
      split at H
      · rename_i j
        split at H
        · rename_i cl sz es hget
          split at H
          · rename_i hsz
            have hsz := Nat.eq_of_beq_eq_true hsz
            subst hsz
            rw [putH_eq] at H
            refine ⟨_, [(j, some (.row cl (P.cellsOf e) (List.replicate es.length (closeZ (zv.cells.toList.map .v)))))], [], [j], H, fun ty vx => ⟨by simp, fun w m R Rf hD hx hag hp hm I => ?_⟩⟩
            have hgD := (hag j (by simp)).trans hget
            rcases I.br j _ hgD with ⟨rfl, hm'⟩ | ⟨b, base, N, hm', hW, hN, hs, hE⟩
            · cases hx.c_inv with
              | ref hm2 _ _ _ => rw [hm'] at hm2; cases hm2
              | ref0 _ =>
                obtain ⟨I', E'⟩ := I.restNil (sz := P.cellsOf e) (cl := cl) (cl' := cl) (sz' := P.cellsOf e) hm'
                exact ⟨_, _, run_clear hu hinf hz1 (.inl ⟨rfl, rfl⟩), m, R, Rf, I', VR.undef, E', fun _ _ => rfl⟩
            · cases hx.c_inv with
              | ref0 hm2 => rw [hm'] at hm2; cases hm2
              | ref hm2 hn2 hsh hc =>
                rw [hm'] at hm2; cases hm2
                have hf := zeroER (w := w) (Rs := sel true Rf R) hzs es.length
                have hl := hf.flatten_len (hzl es.length)
                rw [List.length_replicate] at hl
                obtain ⟨I', E'⟩ := I.stretch (off := 0) (fy := true) hgD hm' hW hN hs hE hf (hzl es.length) (by simp)
                refine ⟨_, _, run_clear hu hinf hz1 (.inr ⟨_, rfl, ?_⟩), m, R, Rf, ?_, VR.undef, E', fun _ _ => rfl⟩
                · rw [zeroList_eq]
                  have := run_store_wr (P := P) hW (o := base) (vs := (List.replicate es.length zv.cells.toList).flatten) (by rw [hl]; exact hN) hf.scalars
                  simpa using this
                · simpa [applyU] using I'
          · cases H
        · cases H
      · rename_i j off len
        split at H
        · rename_i cl sz es hget
          split at H
          · rename_i hsz
            have hsz := Nat.eq_of_beq_eq_true hsz
            subst hsz
            have H1 := itet_some H
            clear H
            obtain ⟨hol, H⟩ := H1
            simp only [decide_eq_true_eq] at hol
            rw [putH_eq] at H
            refine ⟨_, [(j, some (.row cl (P.cellsOf e) (es.take off ++ (List.replicate len (closeZ (zv.cells.toList.map .v)) ++ es.drop (off + len)))))], [], [j], H, fun ty vx => ⟨by simp, fun w m R Rf hD hx hag hp hm I => ?_⟩⟩
            have hgD := (hag j (by simp)).trans hget
            rcases I.br j _ hgD with ⟨rfl, hm'⟩ | ⟨b, base, N, hm', hW, hN, hs, hE⟩
            · cases hx.c_inv with
              | subE hm2 _ _ _ => rw [hm'] at hm2; cases hm2
              | sub hm2 _ _ _ _ => rw [hm'] at hm2; cases hm2
              | sub0 _ =>
                obtain ⟨I', E'⟩ := I.restNil (sz := P.cellsOf e) (cl := cl) (cl' := cl) (sz' := P.cellsOf e) hm'
                exact ⟨_, _, run_clear hu hinf hz1 (.inl ⟨rfl, rfl⟩), m, R, Rf, by simpa [applyU] using I', VR.undef, E', fun _ _ => rfl⟩
            · have hf := zeroER (w := w) (Rs := sel true Rf R) hzs len
              have hl := hf.flatten_len (hzl len)
              rw [List.length_replicate] at hl
              obtain ⟨I', E'⟩ := I.stretch (off := off) (fy := true) hgD hm' hW hN hs hE hf (hzl len) (by simpa using hol)
              rw [List.length_replicate, Bool.and_true] at I'
              have hin : (off + len) * P.cellsOf e ≤ es.length * P.cellsOf e := Nat.mul_le_mul_right _ hol
              rw [Nat.add_mul] at hin
              cases hx.c_inv with
              | sub0 hm2 => rw [hm'] at hm2; cases hm2
              | subE hm2 _ _ _ =>
                rw [hm'] at hm2; cases hm2
                refine ⟨_, w, run_clear hu hinf hz1 (.inl ⟨rfl, rfl⟩), m, R, Rf, ?_, VR.undef, Ext.refl w m R Rf I.sub, fun _ _ => rfl⟩
                simpa [applyU, World.setCells] using I'
              | sub hm2 hn2 hl2 hsh hc =>
                rw [hm'] at hm2; cases hm2
                refine ⟨_, _, run_clear hu hinf hz1 (.inr ⟨_, rfl, ?_⟩), m, R, Rf, I', VR.undef, E', fun _ _ => rfl⟩
                rw [zeroList_eq]
                exact run_store_wr hW (by rw [hl]; omega) hf.scalars
          · cases H
        · cases H
      · refine ⟨_, [], [], [], H, fun ty vx => ⟨by simp, fun w m R Rf hD hx hag hp hm I => ?_⟩⟩
        have := hx.v_inv; subst this
        exact ⟨_, w, run_clear hu hinf hz1 (.inl ⟨rfl, rfl⟩), Post.same I VR.undef⟩
      · cases H
    · cases H
  · cases H

theorem run_getMap {k : Nat} {es : Array MapEntry} {c : Nat} (hh : w.heap[k]? = some (.map es c)) : (getObj k).run P w = .ok (.map es c) w := by
  simp [getObj, Sem.run, hh]

theorem lenK_good {id : Nat} {t : TypeId} {x : AV} {s : S} {K : KT β} {out : β} (H : lenK P t x s K = some out) :
    ∃ v rd, K v s rd [] = some out ∧ ∀ ty vx, Does B P id [] s.h rd [] v (fun w m R Rf => VR w m R Rf x vx) fun _ => Builtin.len_ #[t] ty #[vx] := by
  unfold lenK at H
  split at H
  · rename_i b hu
    refine ⟨_, [], H, fun ty vx => ⟨by simp, fun w m R Rf hD hx hag hp hm I => ?_⟩⟩
    have := hx.v_inv; subst this
    exact ⟨_, w, by simp [Builtin.len_, run_underlying hu, goInt, ← strLen_eq], Post.same I .int⟩
  · rename_i e x hu
    split at H
    · rename_i j off len
      split at H
      · rename_i cl sz es hget
        refine ⟨_, [j], H, fun ty vx => ⟨by simp, fun w m R Rf hD hx hag hp hm I => ?_⟩⟩
        have : ∃ A cap, vx = .slice A len cap := by
          cases hx.c_inv with
          | sub0 _ => exact ⟨_, _, rfl⟩
          | subE _ _ _ _ => exact ⟨_, _, rfl⟩
          | sub _ _ _ _ _ => exact ⟨_, _, rfl⟩
        obtain ⟨A, cap, rfl⟩ := this
        exact ⟨_, w, by simp [Builtin.len_, run_underlying hu, goInt], Post.same I .int⟩
      · cases H
    · split at H
      · rename_i fr oz es rd hr
        refine ⟨_, rd, H, fun ty vx => ⟨by simp, fun w m R Rf hD hx hag hp hm I => ?_⟩⟩
        obtain ⟨A, cap, sz, rfl, _, _, _⟩ := rowOf_spec hr (fun i hi => hag i (by simp [hi])) I hx.c_inv
        exact ⟨_, w, by simp [Builtin.len_, run_underlying hu, goInt], Post.same I .int⟩
      · cases H
  · rename_i a b j hu
    split at H
    · rename_i cl es clock hget
      refine ⟨_, [j], H, fun ty vx => ⟨by simp, fun w m R Rf hD hx hag hp hm I => ?_⟩⟩
      obtain ⟨blk, ents, hm', hh, hf⟩ := I.br j _ ((hag j (by simp)).trans hget)
      cases hx.c_inv with
      | mp hm2 =>
        rw [hm'] at hm2; cases hm2
        have hl := hf.length
        simp only [Array.length_toList] at hl
        refine ⟨_, w, ?_, Post.same I (.int (n := (es.length : Nat)))⟩
        simp [Builtin.len_, run_underlying hu, goInt, run_getMap hh, hl]
    · cases H
  · cases H

theorem foldInts_good {mx : Bool} : ∀ {xs : List AV} {k k' : IntKind} {n n' : Int}, foldInts mx xs k n = some (k', n') → k' = k ∧
    ∀ {w : World} {m : Lm} {R Rf : Bs} {vs : List Value}, Fa (VR w m R Rf) xs vs → (vs.foldlM (if mx then Builtin.max2 else Builtin.min2) (.int k n)).run P w = .ok (.int k' n') w := by
  intro xs
  induction xs with
  | nil => intro k k' n n' H; cases H; exact ⟨rfl, fun {w m R Rf vs} hf => by cases hf; rfl⟩
  | cons x r ih =>
    intro k k' n n' H
    unfold foldInts at H
    split at H
    · rename_i he; cases he
    · rename_i k2 n2 r2 he
      cases he
      split at H
      · rename_i hk
        simp only [decide_eq_true_eq] at hk
        subst hk
        obtain ⟨h1, h2⟩ := ih H
        refine ⟨h1, fun {w m R Rf vs} hf => ?_⟩
        cases hf with
        | cons ha hr =>
          have := ha.v_inv; subst this
          rw [List.foldlM_cons, Sem.run_bind]
          cases mx
          · simp only [Bool.false_eq_true, if_false, sel] at h2 ⊢
            simp only [Builtin.min2, Sem.run_pure, Result.andThen_ok]
            exact h2 hr
          · simp only [if_true, sel] at h2 ⊢
            simp only [Builtin.max2, Sem.run_pure, Result.andThen_ok]
            exact h2 hr
      · cases H
    · cases H

theorem minMaxK_good {mx : Bool} {xs : List AV} {K : AV → Option β} {out : β} (H : minMaxK mx xs K = some out) :
    ∃ r, K r = some out ∧ ∀ (w : World) (m : Lm) (R Rf : Bs) (vs : List Value), Fa (VR w m R Rf) xs vs → ∃ v0 rest, vs = v0 :: rest ∧ ∃ val, (rest.foldlM (if mx then Builtin.max2 else Builtin.min2) v0).run P w = .ok val w ∧ VR w m R Rf r val := by
  unfold minMaxK at H
  split at H
  · rename_i k n r
    split at H
    · rename_i k' n' hf
      refine ⟨_, H, fun w m R Rf vs hv => ?_⟩
      cases hv with
      | cons ha hr =>
        have := ha.v_inv; subst this
        obtain ⟨_, h2⟩ := foldInts_good (P := P) hf
        exact ⟨_, _, rfl, _, h2 hr, .int⟩
    · cases H
  · cases H
end Go.AM

namespace Go.AM
open Go.RowKit

variable {B : Base} {w w' : World} {m : Lm} {R Rf : Bs} {h : Tr Buf} {P : Program} {β : Type}

theorem bytesL_spec : ∀ {es : List (List AC)} {l : List UInt8}, bytesL es = some l → ∃ ns : List Int, es = ns.map (fun n => [.v (.int .u8 n)]) ∧ l = ns.map fun n => UInt8.ofNat n.toNat
  | [], l, h => by cases h; exact ⟨[], rfl, rfl⟩
  | e :: r, l, h => by
    unfold bytesL at h
    split at h
    · rename_i b l' hb hl
      cases h
      obtain ⟨ns, h1, h2⟩ := bytesL_spec hl
      unfold byteOfC at hb
      split at hb
      · rename_i n
        cases hb
        exact ⟨n :: ns, by simp [h1], by simp [h2]⟩
      · cases hb
    · cases h

theorem foldl_push' : ∀ (ns : List Int) (r : ByteArray), ns.foldl (fun r n => r.push (UInt8.ofNat n.toNat)) r = ⟨r.data ++ (ns.map fun n => UInt8.ofNat n.toNat).toArray⟩
  | [], r => by simp
  | b :: l, r => by
    simp only [List.map_cons, List.foldl_cons]
    rw [foldl_push' l]
    simp [ByteArray.push]

theorem u8T_spec {e : TypeId} (h : u8T P e = true) : P.underlying e = some (.int .u8) := by
  unfold u8T at h
  split at h
  · assumption
  · cases h

theorem convK_good {st : Bool} {id : Nat} {src dst : TypeId} {x : AV} {s : S} {K : KT β} {out : β} (H : convK st P id src dst x s K = some out) :
    ∃ v U rd wr, K v { s with h := applyU U s.h } rd wr = some out ∧ ∀ vx, Does B P id U s.h rd wr v (fun w m R Rf => VR w m R Rf x vx) fun _ => convert src dst vx := by
  unfold convK at H
  split at H
  · rename_i d k k0 n hs hd
    refine ⟨_, [], [], [], H, fun vx => ⟨by simp, fun w m R Rf hD hx hag hp hm I => ?_⟩⟩
    have := hx.v_inv; subst this
    exact ⟨_, w, by simp [convert, run_underlying hs, run_underlying hd, Conv.intToInt], Post.same I .int⟩
  · rename_i d b hs hd
    refine ⟨_, [], [], [], H, fun vx => ⟨by simp, fun w m R Rf hD hx hag hp hm I => ?_⟩⟩
    have := hx.v_inv; subst this
    exact ⟨_, w, by simp [convert, run_underlying hs, run_underlying hd], Post.same I .str⟩
  · rename_i e b hs hd
    split at H
    · rename_i hc
      rw [Bool.and_eq_true] at hc
      have he := u8T_spec hc.1
      have h1 := Nat.eq_of_beq_eq_true hc.2
      rw [putH_eq] at H
      refine ⟨_, [(id, some (.row true 1 (bytesIn b)))], [], [], H, fun vx => ⟨by simp, fun w m R Rf hD hx hag hp hm I => ?_⟩⟩
      have := hx.v_inv; subst this
      refine ⟨_, _, run_bytes_of_string w src dst e b hs hd he, ?_⟩
      have hcap := grownCap_ge w b.size 0 e
      have hsz : (bytesRow b (grownCap w b.size 0 e)).size = grownCap w b.size 0 e := by
        have : b.data.size = b.size := rfl
        simp [bytesRow]; omega
      have hln : (bytesIn b).length = b.size := by simp [bytesIn]
      obtain ⟨I2, E2⟩ := I.more (More.drew w)
      have M : More w.drew (w.drew.alloc (.cells (bytesRow b (grownCap w b.size 0 e)) e ((bytesRow b (grownCap w b.size 0 e)).size, (bytesRow b (grownCap w b.size 0 e)).size + 1))) := More.push _ _
      have E : Ext w.drew _ m (updM m id (.row w.heap.size 0 1 (bytesIn b).length)) R R Rf Rf := Ext.new I2 M hm
      have hat : (w.drew.alloc (.cells (bytesRow b (grownCap w b.size 0 e)) e ((bytesRow b (grownCap w b.size 0 e)).size, (bytesRow b (grownCap w b.size 0 e)).size + 1))).heap[w.heap.size]? = some (.cells (bytesRow b (grownCap w b.size 0 e)) e ((bytesRow b (grownCap w b.size 0 e)).size, (bytesRow b (grownCap w b.size 0 e)).size + 1)) := by
        show (w.heap.push _)[w.heap.size]? = _
        exact Array.getElem?_push_size
      have hW : Wr (w.drew.alloc (.cells (bytesRow b (grownCap w b.size 0 e)) e ((bytesRow b (grownCap w b.size 0 e)).size, (bytesRow b (grownCap w b.size 0 e)).size + 1))) w.heap.size (bytesRow b (grownCap w b.size 0 e)).size :=
        ⟨_, _, _, hat, rfl, fun o ho => by
          unfold World.frozen?
          simp only [hat]
          simp; omega⟩
      refine ⟨_, R, Rf, I2.new M hp hm (l := .row w.heap.size 0 1 (bytesIn b).length) rfl (Nat.le_refl _) (by show w.heap.size < (w.heap.push _).size; simp) ?_, ?_, E2.trans E, fun i hi => updM_ne m _ hi⟩
      · refine .inr ⟨w.heap.size, 0, _, updM_same _ _ _, hW, ?_, fun e he => ?_, ?_⟩
        · rw [hln, hsz]; omega
        · obtain ⟨x, _, rfl⟩ := List.mem_map.1 he; rfl
        · refine EsAt.of_flat (bytesIn_ER b) (fun e he => by obtain ⟨x, _, rfl⟩ := List.mem_map.1 he; rfl) fun j u hj => ?_
          unfold World.cell?
          simp only [hat]
          have hj' : (b.data.toList.map fun x => Value.int .u8 x.toNat)[j]? = some u := by
            rw [← hj]; congr 1
            induction b.data.toList with
            | nil => rfl
            | cons x r ih => simp at ih ⊢; exact ih
          have hjl : j < b.data.size := by
            have := (List.getElem?_eq_some_iff.1 hj').1
            simpa using this
          simp only [Option.isSome_none, Bool.false_eq_true, if_false, Nat.zero_add, bytesRow]
          rw [Array.getElem?_append_left (by simpa using hjl)]
          rw [← hj']
          simp
      · have key : ∀ n, n = (bytesIn b).length → CR (w.drew.alloc (.cells (bytesRow b (grownCap w b.size 0 e)) e ((bytesRow b (grownCap w b.size 0 e)).size, (bytesRow b (grownCap w b.size 0 e)).size + 1))) (updM m id (.row w.heap.size 0 1 (bytesIn b).length)) R Rf (.ref id) (.slice (some ⟨w.heap.size, 0, none⟩) n (grownCap w b.size 0 e)) := by
          rintro _ rfl
          refine .ref (t := e) (N := (bytesRow b (grownCap w b.size 0 e)).size) (updM_same _ _ _) (by rw [hln]; exact hcap) ?_ (by rw [hsz]; omega)
          unfold World.shape?
          rw [hat]
        exact .c (key _ hln.symm)
    · cases H
  · skip
    rename_i e x hno hs hd
    split at H
    · rename_i hu
      have he := u8T_spec hu
      split at H
      · rename_i fr oz es rd hr
        have H1 := bnd_some H
        clear H
        obtain ⟨b, hb, H⟩ := H1
        refine ⟨_, [], rd, [], H, fun vx => ⟨by simp, fun w m R Rf hD hx hag hp hm I => ?_⟩⟩
        obtain ⟨A, cap, sz, rfl, hcap, hS, _⟩ := rowOf_spec hr (fun i hi => hag i (by simp [hi])) I hx.c_inv
        unfold bytesOf at hb
        split at hb
        · rename_i l hl
          cases hb
          obtain ⟨ns, h1, h2⟩ := bytesL_spec hl
          refine ⟨.string ⟨l.toArray⟩, w, ?_, Post.same I .str⟩
          rw [run_convert_bytes_string w src dst e A es.length cap hs he hd]
          have fin : ∀ a : Addr, A = some a → (loadCells a es.length).run P w = .ok (ns.map (Value.int .u8)).toArray w → (Conv.bytesToString (.slice A es.length cap)).run P w = .ok (.string ⟨l.toArray⟩) w := by
            rintro a rfl hld
            rw [run_bytesToString w a _ cap ns hld, foldl_push', h2]
            have he0 : ByteArray.empty.data = #[] := rfl
            rw [he0]
            simp
          rcases hS with rfl | ⟨b, o, rfl, hsz, hE⟩
          · have : ns = [] := by
              cases ns with
              | nil => rfl
              | cons n r => cases h1
            subst this
            cases A with
            | none => rw [h2]; rfl
            | some a => exact fin a rfl (by simp [loadCells, loadCellsFrom])
          · refine fin _ rfl ?_
            have hln : es.length = (ns.map (Value.int .u8)).length := by rw [h1]; simp
            rw [hln]
            refine run_load_at fun k u hk => ?_
            rw [List.getElem?_map] at hk
            cases hn : ns[k]? with
            | none => rw [hn] at hk; cases hk
            | some n =>
              rw [hn] at hk
              cases hk
              have hek : es[k]? = some [.v (.int .u8 n)] := by rw [h1, List.getElem?_map, hn]; rfl
              have h1 : sz = 1 := (hsz _ (List.mem_of_getElem? hek)).symm
              subst h1
              obtain ⟨u, hu, hr⟩ := hE k _ hek 0 _ rfl
              cases hr
              simpa using hu
        · cases hb
      · cases H
    · cases H
  · cases H
end Go.AM

namespace Go.AM
open Go.RowKit

variable {B : Base} {w w' : World} {m : Lm} {R Rf : Bs} {h : Tr Buf} {P : Program} {β : Type}

/-! ### Maps: keys -/
theorem eqVals_eq : ∀ {ts : List CT} {xs ys : List Value}, fitVals ts xs = true → fitVals ts ys = true → eqVals xs ys = true → xs = ys
  | [], [], [], _, _, _ => rfl
  | [], _ :: _, _, h, _, _ => by simp [fitVals] at h
  | [], [], _ :: _, _, h, _ => by simp [fitVals] at h
  | _ :: _, [], _, h, _, _ => by simp [fitVals] at h
  | _ :: _, _ :: _, [], _, h, _ => by simp [fitVals] at h
  | t :: ts, x :: xs, y :: ys, hx, hy, he => by
    simp only [fitVals, Bool.and_eq_true] at hx hy
    simp only [eqVals, Bool.and_eq_true] at he
    have h1 := eqVals_eq hx.2 hy.2 he.2
    subst h1
    congr 1
    have e1 := hx.1; have e2 := hy.1; have e3 := he.1
    cases t <;> cases x <;> simp [fitVal] at e1 <;> cases y <;> simp [fitVal] at e2 <;> simp [eqVal] at e3
    · subst e1; subst e2; subst e3; rfl
    · subst e3; rfl
    · rw [strEq_eq, ba_beq] at e3; subst e3; rfl

theorem sameBits_fit {t : CT} {x : Value} (h : fitVal t x = true) (n : Nat) : Instr.sameBits n x x = true := by
  cases t <;> cases x <;> simp [fitVal] at h
  · cases n <;> simp [Instr.sameBits]
  · cases n <;> simp [Instr.sameBits]
  · rename_i s
    have : (s == s) = true := (ba_beq s s).2 rfl
    cases n <;> simp [Instr.sameBits, this]
theorem fitVals_mem : ∀ {ts : List CT} {xs : List Value}, fitVals ts xs = true → ∀ x ∈ xs, ∃ t, fitVal t x = true
  | [], [], _ => by simp
  | [], _ :: _, h => by simp [fitVals] at h
  | _ :: _, [], h => by simp [fitVals] at h
  | t :: ts, y :: xs, h => fun x hx => by
    simp only [fitVals, Bool.and_eq_true] at h
    rcases List.mem_cons.1 hx with rfl | hx
    · exact ⟨t, h.1⟩
    · exact fitVals_mem h.2 x hx

/-- A key of type t with these cells. -/
structure Key (P : Program) (t : TypeId) (tys : List CT) (xs : List Value) (v : Value) : Prop where
  eq : eqCts P 50 t = some tys
  fit : fitVals tys xs = true
  val : v = valOf P t xs

theorem Key.same {t : TypeId} {tys : List CT} {xs : List Value} {v : Value} (K : Key P t tys xs v) : Instr.sameBits 10000 v v = true := by
  obtain ⟨he, hf, rfl⟩ := K
  unfold valOf
  split
  · show Instr.sameBits (9999 + 1) (.agg _) (.agg _) = true
    simp only [Instr.sameBits, beq_self_eq_true, Bool.true_and, List.all_eq_true]
    rintro ⟨a, b⟩ hab
    have h1 := List.of_mem_zip hab
    have : a = b := by
      rw [List.zip_eq_zipWith, List.zipWith_self] at hab
      obtain ⟨c, _, hc⟩ := List.mem_map.1 hab
      cases hc; rfl
    subst this
    obtain ⟨t, ht⟩ := fitVals_mem hf a (by simpa using h1.1)
    exact sameBits_fit ht _
  · rename_i ha
    have h1 := eqCts_one he ha
    have hl := fitVals_length hf
    rw [h1] at hl
    obtain ⟨x, rfl⟩ := List.length_eq_one_iff.1 hl
    obtain ⟨t, ht⟩ := fitVals_mem hf x (by simp)
    exact sameBits_fit ht _

theorem run_keyStays {t : TypeId} {tys : List CT} {xs : List Value} {v : Value} (K : Key P t tys xs v) : (Instr.keyThatStays v v).run P w = .ok v w := by
  simp [Instr.keyThatStays, K.same]

theorem run_equal_key {t : TypeId} {tys : List CT} {xs ys : List Value} {v u : Value} (K : Key P t tys xs v) (K' : Key P t tys ys u) : (Op.equal t v u).run P w = .ok (eqVals xs ys) w := by
  obtain ⟨he, hf, rfl⟩ := K
  obtain ⟨_, hf', rfl⟩ := K'
  exact run_eqCts 50 10000 t tys (by omega) he xs ys hf hf'

theorem run_forIn_unit {α : Type} (f : α → PUnit → Sem (ForInStep PUnit)) : ∀ (l : List α), (∀ x ∈ l, (f x ⟨⟩).run P w = .ok (.yield ⟨⟩) w) → (forIn l PUnit.unit f).run P w = .ok ⟨⟩ w
  | [], _ => rfl
  | x :: r, h => by
    simp only [List.forIn_cons, Sem.run_bind, h x (by simp), Result.andThen_ok]
    exact run_forIn_unit f r fun y hy => h y (by simp [hy])

/-- The parts of a struct key. -/
theorem eqFs_mem {rec : TypeId → Option (List CT)} (hrec : ∀ t l, rec t = some l → (∃ u, P.underlying t = some u) ∧ (aggT P t = false → l.length = 1)) {w : World} {xs : Array Value} : ∀ {fs : List Field} {off : Nat} {tys : List CT},
    eqFs rec P fs off = some tys → fitVals tys (xs.toList.drop off) = true → ∀ f ∈ fs, ∃ l ys, rec f.type = some l ∧ fitVals l ys = true ∧ (part f.type xs f.offset).run P w = .ok (valOf P f.type ys) w := by
  intro fs
  induction fs with
  | nil => intro off tys _ _ f hf; simp at hf
  | cons g r ih2 =>
    intro off tys he hx
    unfold eqFs at he
    split at he
    · rename_i l h1 h2 h3
      split at he
      · rename_i h4
        split at he
        · rename_i r' h5
          cases he
          rw [Bool.and_eq_true, Option.isSome_iff_exists] at h4
          obtain ⟨hlen, i, hi⟩ := h4
          replace hlen := Nat.eq_of_beq_eq_true hlen
          have hoff : g.offset = off := Nat.eq_of_beq_eq_true h2
          obtain ⟨⟨u, hu⟩, hone⟩ := hrec _ _ h3
          obtain ⟨x1, x2⟩ := fitVals_append hx
          have lx : (xs.toList.drop off).length = (l ++ r').length := fitVals_length hx
          simp at lx
          intro f hf
          rcases List.mem_cons.1 hf with rfl | hf
          · refine ⟨l, (xs.toList.drop off).take l.length, h3, x1, ?_⟩
            rw [hoff]
            by_cases hz : off + l.length ≤ xs.size
            · exact run_part hu hi hlen hz hone
            · have hz0 : l.length = 0 := by omega
              have ha : aggT P f.type = true := by cases ha : aggT P f.type with | true => rfl | false => have := hone ha; omega
              unfold part
              simp only [Sem.run_bind, run_isAgg hu, Result.andThen_ok, ha, if_true, run_size hi, Sem.run_pure, valOf]
              rw [← hlen, hz0]; simp; omega
          · exact ih2 h5 (by simpa [List.drop_drop] using x2) f hf
        · cases he
      · cases he
    · cases he

theorem run_checkKey (e : Bool) : ∀ (d n : Nat) (t : TypeId) (tys : List CT), d ≤ n → eqCts P d t = some tys → ∀ xs : List Value, fitVals tys xs = true → (Instr.checkKey e n t (valOf P t xs)).run P w = .ok () w := by
  intro d
  induction d with
  | zero => intro n t tys hn he; cases he
  | succ d ih =>
    intro n t tys hn he xs hx
    obtain ⟨n, rfl⟩ : ∃ k, n = k + 1 := ⟨n - 1, by omega⟩
    unfold eqCts at he
    split at he
    · rename_i hu
      simp [Instr.checkKey, run_underlying hu]
    · rename_i k hu
      simp [Instr.checkKey, run_underlying hu]
    · rename_i hu
      simp [Instr.checkKey, run_underlying hu]
    · rename_i fs hu
      have ha : aggT P t = true := by simp [aggT, hu]
      split at he
      · cases he
      · have hm := eqFs_mem (P := P) (w := w) (xs := xs.toArray) (rec := eqCts P d) (fun t l hl => ⟨eqCts_under hl, eqCts_one hl⟩) he (by simpa using hx)
        simp only [valOf, ha, Instr.checkKey, Sem.run_bind, run_underlying hu, Result.andThen_ok]
        rw [← Array.forIn_toList]
        rw [run_forIn_unit _ fs.toList fun f hf => ?_]
        · rfl
        · obtain ⟨l, ys, h1, h2, h3⟩ := hm f hf
          by_cases hn : f.name ≠ "_"
          · rw [if_pos hn]
            simp only [Sem.run_bind, h3, Result.andThen_ok, ih n f.type l (by omega) h1 ys h2, Sem.run_pure]
          · rw [if_neg hn]
            simp only [Sem.run_pure, Sem.run_bind, Result.andThen_ok]
    · cases he
end Go.AM

namespace Go.AM
open Go.RowKit

variable {B : Base} {w w' : World} {m : Lm} {R Rf : Bs} {h : Tr Buf} {P : Program} {β : Type}

def EntR (x : List AC × List AC × Nat) (e : MapEntry) : Prop := KV x.1 e.key ∧ KV x.2.1 e.val ∧ e.born = x.2.2

theorem KV.cells {cs : List AC} {v : Value} (H : KV cs v) : Fa (CR w m R Rf) cs v.cells.toList := by
  rcases H with ⟨rfl, hs⟩ | ⟨_, arr, rfl, hf⟩
  · have : v.cells = #[v] := by cases v <;> first | rfl | simp [scalarV] at hs
    rw [this]; exact .cons (.v hs) .nil
  · exact hf.mono fun x u hx => by rw [hx.1]; exact .v hx.2
theorem cellsM_cells {x : AV} {cs : List AC} (h : x.cellsM = some cs) : x.cells = some cs := by
  cases x with
  | c x => exact h
  | agg c =>
    simp only [AV.cellsM] at h
    split at h
    · cases h
    · exact h
  | tup _ => cases h
theorem KV.of {x : AV} {cs : List AC} {v : Value} (h : x.cellsM = some cs) (hv : VR w m R Rf x v) (ha : cs.all isV = true) : KV cs v := by
  rw [List.all_eq_true] at ha
  cases hv with
  | c hr =>
    simp only [AV.cellsM, Option.some.injEq] at h
    subst h
    have := ha _ (List.mem_singleton.2 rfl)
    cases hr with
    | v hs => exact .inl ⟨rfl, hs⟩
    | _ => simp [isV] at this
  | agg arr hf =>
    simp only [AV.cellsM] at h
    split at h
    · cases h
    · rename_i hn
      cases h
      refine .inr ⟨(fun e => by rw [e] at hn; cases hn), arr, rfl, Fa.of_get hf.length fun k a b h1 h2 => ?_⟩
      obtain ⟨b', h3, hr⟩ := hf.get k a h1
      rw [h2] at h3; cases h3
      have := ha a (List.mem_of_getElem? h1)
      cases hr with
      | v hs => exact ⟨rfl, hs⟩
      | _ => simp [isV] at this
  | tup _ _ _ => cases h

theorem oneT_spec {t : TypeId} (h : oneT P t = true) : aggT P t = true ↔ P.cellsOf t ≠ 1 := by
  unfold oneT at h
  split at h
  · rename_i ha
    simp only [ha, true_iff]
    intro e; rw [e] at h; cases h
  · rename_i ha
    have := Nat.eq_of_beq_eq_true h
    simp [ha, this]

theorem Key.of_KV {t : TypeId} {tys : List CT} {ys : List Value} {v : Value} (ho : oneT P t = true) (he : eqCts P 50 t = some tys) (hl : tys.length = P.cellsOf t) (hf : fitVals tys ys = true) (H : KV (ys.map .v) v) : Key P t tys ys v := by
  refine ⟨he, hf, ?_⟩
  have hln := fitVals_length hf
  have h1 := oneT_spec ho
  rcases H with ⟨hc, hs⟩ | ⟨hn, arr, rfl, hfa⟩
  · have hy : ys = [v] := by
      cases ys with
      | nil => simp at hc
      | cons y r => cases r with
        | nil => simp at hc; rw [hc]
        | cons z r => simp at hc
    have ha : aggT P t = false := by
      cases ha : aggT P t with
      | false => rfl
      | true => have := h1.1 ha; rw [hy] at hln; simp at hln; omega
    rw [hy]; simp [valOf, ha]
  · have ha : aggT P t = true := h1.2 (by simp at hn; omega)
    simp only [valOf, ha]
    congr 1
    apply Array.ext'
    have : ∀ {a : List Value} {b : List Value}, Fa (fun x u => x = AC.v u ∧ scalarV u = true) (a.map .v) b → b = a := by
      intro a
      induction a with
      | nil => intro b hf; cases hf; rfl
      | cons x r ih =>
        intro b hf
        cases hf with
        | cons h1 h2 =>
          have := h1.1
          cases this
          rw [ih h2]
    simpa using this hfa

theorem sameNow_eq {d : TypeDesc} {x y : Value} {b : Bool} (h : Instr.sameNow d x y = some b) : b = eqVal x y := by
  unfold Instr.sameNow at h
  split at h
  · split at h
    · cases h; rfl
    · cases h
  · cases h; simp only [eqVal, strEq_eq]
  · cases h; rfl
  · cases h
theorem sameNow_kind {t : TypeId} {d : TypeDesc} {x y : Value} {b : Bool} (hd : P.underlying t = some d) (h : Instr.sameNow d x y = some b) : aggT P t = false := by
  unfold Instr.sameNow at h
  split at h
  · simp [aggT, hd]
  · simp [aggT, hd]
  · simp [aggT, hd]
  · cases h
theorem one_of {t : TypeId} {tys : List CT} {xs ys : List Value} {v u : Value} (K : Key P t tys xs v) (K' : Key P t tys ys u) (ha : aggT P t = false) : ∃ x y, xs = [x] ∧ v = x ∧ ys = [y] ∧ u = y := by
  have l1 := eqCts_one K.eq ha
  have l2 := fitVals_length K.fit
  have l3 := fitVals_length K'.fit
  rw [l1] at l2 l3
  obtain ⟨x, rfl⟩ := List.length_eq_one_iff.1 l2
  obtain ⟨y, rfl⟩ := List.length_eq_one_iff.1 l3
  refine ⟨x, y, rfl, ?_, rfl, ?_⟩
  · rw [K.val]; simp [valOf, ha]
  · rw [K'.val]; simp [valOf, ha]

/-- What is found. -/
def FoundR (ents : List MapEntry) (r : Option (Nat × List AC × Nat)) (q : Option (Nat × Value)) : Prop := match r, q with
  | none, none => True
  | some (j, v, born), some (j', u) => j' = j ∧ ∃ e, ents[j]? = some e ∧ e.val = u ∧ KV v u ∧ e.born = born
  | _, _ => False

theorem mfind_spec {t : TypeId} {tys : List CT} {xs : List Value} {vk : Value} (ho : oneT P t = true) (hl : tys.length = P.cellsOf t) (K : Key P t tys xs vk) : ∀ {es : List (List AC × List AC × Nat)} {ents all : List MapEntry} {i : Nat} {r : Option (Nat × List AC × Nat)},
    mfind (xs.map .v) es i = some r → Fa EntR es ents → (∀ k, ents[k]? = all[i + k]?) →
    ∃ q, FoundR all r q ∧ (∀ w : World, (Instr.findAsking t vk ents i).run P w = .ok q w) ∧
      (∀ (d : TypeDesc) q', P.underlying t = some d → Instr.findNow d vk ents i = some q' → q' = q) ∧ (∀ j v b, r = some (j, v, b) → ∃ e, all[j]? = some e ∧ e.key = vk ∧ i ≤ j ∧ es[j - i]? = some (xs.map .v, v, b)) := by
  intro es
  induction es with
  | nil =>
    intro ents all i r H hf ha
    cases hf; cases H
    exact ⟨none, trivial, fun w => by simp [Instr.findAsking], fun d q' hd hq => by simp [Instr.findNow] at hq; exact hq.symm, fun j v b h => by cases h⟩
  | cons x es ih =>
    intro ents all i r H hf ha
    obtain ⟨k, v, born⟩ := x
    cases hf with
    | @cons _ e _ ents hx hrest =>
      obtain ⟨hk, hv, hb⟩ := hx
      simp only at hk hv hb
      have hall := ha 0
      simp only [List.getElem?_cons_zero, Nat.add_zero] at hall
      unfold mfind at H
      have hcell : Fa (CR (default : World) noL (fun _ => False) (fun _ => False)) k e.key.cells.toList := hk.cells
      split at H
      · rename_i hq
        cases H
        obtain ⟨h1, h2, h3⟩ := eqCells_spec K.fit hq hcell
        rw [h2] at hk
        have K' := Key.of_KV ho K.eq hl h1 hk
        have hee := eqVals_eq K.fit h1 h3.symm
        have hkey : e.key = vk := by rw [K'.val, K.val, hee]
        refine ⟨some (i, e.val), ⟨rfl, e, hall.symm, rfl, hv, hb⟩, fun w => ?_, fun d q' hd hq' => ?_, fun j v' b' h => ?_⟩
        · unfold Instr.findAsking
          simp only [Sem.run_bind, run_equal_key K K', ← h3, Result.andThen_ok, if_true, Sem.run_pure]
        · unfold Instr.findNow at hq'
          split at hq'
          · cases hq'; rfl
          · rename_i hs
            exfalso
            rw [hkey] at hs
            have h9 := sameNow_eq hs
            obtain ⟨x, _, hx1, hx2, _⟩ := one_of K K (sameNow_kind hd hs)
            rw [hx2] at h9
            have : eqVal x x = true := by
              have : eqVals xs xs = true := by rw [← hee] at h3; exact h3.symm
              rw [hx1] at this
              simpa [eqVals] using this
            rw [this] at h9; cases h9
          · cases hq'
        · cases h
          refine ⟨e, hall.symm, hkey, Nat.le_refl _, ?_⟩
          rw [Nat.sub_self, hee, ← h2]; rfl
      · rename_i hq
        obtain ⟨h1, h2, h3⟩ := eqCells_spec K.fit hq hcell
        rw [h2] at hk
        have K' := Key.of_KV ho K.eq hl h1 hk
        obtain ⟨q, r1, r2, r3, r4⟩ := ih (all := all) H hrest fun k => by
          have := ha (k + 1)
          simp only [List.getElem?_cons_succ] at this
          rw [this]; congr 1; omega
        refine ⟨q, r1, fun w => ?_, fun d q' hd hq' => ?_, fun j v' b' hj => ?_⟩
        · unfold Instr.findAsking
          simp only [Sem.run_bind, run_equal_key K K', ← h3, Result.andThen_ok, Bool.false_eq_true, if_false, r2 w]
        · unfold Instr.findNow at hq'
          split at hq'
          · rename_i hs
            exfalso
            have hne := h3.symm
            have h9 := sameNow_eq hs
            obtain ⟨x, y, hx1, hx2, hy1, hy2⟩ := one_of K K' (sameNow_kind hd hs)
            rw [hx2, hy2] at h9
            rw [hx1, hy1] at hne
            simp only [eqVals, Bool.and_true] at hne
            rw [hne] at h9; cases h9
          · exact r3 d q' hd hq'
          · cases hq'
        · obtain ⟨e', a1, a2, a3, a4⟩ := r4 j v' b' hj
          refine ⟨e', a1, a2, by omega, ?_⟩
          rw [show j - i = (j - (i + 1)) + 1 by omega, List.getElem?_cons_succ]; exact a4
      · cases H
end Go.AM

namespace Go.AM
open Go.RowKit

variable {B : Base} {w w' : World} {m : Lm} {R Rf : Bs} {h : Tr Buf} {P : Program} {β : Type}

def setM (w : World) (b : Nat) (es : Array MapEntry) (c : Nat) : World := { w with heap := w.heap.setIfInBounds b (.map es c) }
theorem run_setMap {b : Nat} {es es' : Array MapEntry} {c c' : Nat} (hh : w.heap[b]? = some (.map es c)) : (setObj b (.map es' c')).run P w = .ok () (setM w b es' c') := by
  simp [setObj, Sem.run, hh, setM]
theorem But.setM {b : Nat} {es es' : Array MapEntry} {c c' : Nat} (hh : w.heap[b]? = some (.map es c)) : But b w (setM w b es' c') where
  size := by simp [AM.setM]
  heap := fun k hk => by simp only [AM.setM]; rw [Array.getElem?_setIfInBounds, if_neg (by omega)]
  sh := fun k t n hs => by
    by_cases e : k = b
    · subst e; simp [World.shape?, hh] at hs
    · have : (AM.setM w b es' c').heap[k]? = w.heap[k]? := by simp only [AM.setM]; rw [Array.getElem?_setIfInBounds, if_neg (by omega)]
      simpa [World.shape?, this] using hs
  os := rfl
  tape := rfl
  output := rfl
theorem setM_at {b : Nat} {es es' : Array MapEntry} {c c' : Nat} (hh : w.heap[b]? = some (.map es c)) : (setM w b es' c').heap[b]? = some (.map es' c') := by
  have hlt : b < w.heap.size := (Array.getElem?_eq_some_iff.1 hh).1
  simp only [AM.setM]
  rw [Array.getElem?_setIfInBounds, if_pos rfl, if_pos hlt]

/-- A map's entries are changed. -/
theorem Inv.writeMap {id b : Nat} {cl : Bool} {es es' : List (List AC × List AC × Nat)} {clock clock' : Nat} {ents ents' : Array MapEntry} (I : Inv B w m R Rf h) (hg : h.get id = some (.map cl es clock)) (hm : m id = some (.map b)) (hh : w.heap[b]? = some (.map ents clock))
    (hf : Fa EntR es' ents'.toList) : Inv B (setM w b ents' clock') m R Rf (h.set id (.map cl es' clock')) ∧ Ext w (setM w b ents' clock') m m R R Rf Rf :=
  I.write ⟨_, hg, by simp⟩ hm rfl (But.setM hh) fun _ => ⟨b, ents', hm, setM_at hh, hf⟩

theorem mapT_spec {t k e : TypeId} (h : mapT P t = some (k, e)) : P.underlying t = some (.map k e) ∧ oneT P k = true ∧ oneT P e = true ∧ zeroShape P e = true := by
  unfold mapT at h
  split at h
  · split at h
    · rename_i hc
      simp only [Bool.and_eq_true] at hc
      cases h
      exact ⟨by assumption, hc.1.1, hc.1.2, hc.2⟩
    · cases h
  · cases h

theorem keyT_spec {t : TypeId} {x : AV} {ks : List AC} {v : Value} (ho : oneT P t = true) (h : keyT P t ks = true) (hc : x.cellsM = some ks) (hv : VR w m R Rf x v) :
    ∃ tys xs, ks = xs.map .v ∧ Key P t tys xs v ∧ tys.length = P.cellsOf t ∧ KV ks v := by
  unfold keyT at h
  rw [Bool.and_eq_true] at h
  have hl := Nat.eq_of_beq_eq_true h.2
  have h1 := h.1
  unfold fitT at h1
  split at h1
  · rename_i tys he
    have hcs := hv.cells (cellsM_cells hc)
    obtain ⟨e1, e2⟩ := fitCs_spec h1 hcs
    have hall : ks.all isV = true := by rw [e1]; simp [List.all_eq_true, isV]
    have hkv := KV.of hc hv hall
    have hlen : tys.length = P.cellsOf t := by rw [← hl, e1]; simp [fitVals_length e2]
    rw [e1] at hkv
    exact ⟨tys, _, e1, Key.of_KV ho he hlen e2 hkv, hlen, by rw [e1]; exact hkv⟩
  · cases h1

theorem zero_KV {t : TypeId} {i : TypeInfo} {zv : Value} (ho : oneT P t = true) (hs : zeroShape P t = true) (hi : P.info? t = some i) (hz : i.zero = some zv) (hsc : ∀ x ∈ zv.cells.toList, scalarV x = true) (hn : zv.cells.size = P.cellsOf t) : KV (zv.cells.toList.map .v) zv := by
  unfold zeroShape at hs
  simp only [hi, Option.bind_some, hz] at hs
  have h1 := oneT_spec ho
  have hfa : ∀ {l : List Value}, (∀ x ∈ l, scalarV x = true) → Fa (fun x u => x = AC.v u ∧ scalarV u = true) (l.map .v) l := by
    intro l
    induction l with
    | nil => intro _; exact .nil
    | cons a r ih => intro hh; exact .cons ⟨rfl, hh a (by simp)⟩ (ih fun x hx => hh x (by simp [hx]))
  cases zv with
  | agg arr =>
    have hne := h1.1 hs
    refine .inr ⟨?_, arr, rfl, hfa hsc⟩
    rw [List.length_map, Array.length_toList]
    exact fun e => hne (hn ▸ e)
  | _ => exact .inl ⟨rfl, hsc _ (by simp [Value.cells])⟩

/-- A map's value as it is read. -/
theorem read_KV {t : TypeId} {cl : Bool} {vs : List AC} {val : Value} {K : List AC → Option β} {out : β} (ho : oneT P t = true) (hl : vs.length = P.cellsOf t) (hct : (ctsOf P t).length = P.cellsOf t) (H : castK cl vs (ctsOf P t) 0 K = some out) :
    ∃ cs, K cs = some out ∧ ∀ (av : AV) (w : World) (m : Lm) (R Rf : Bs) (val : Value), ofCells P t cs = some av → (∀ k, Rf k → R k) → KV vs val → VR w m R Rf av val := by
  obtain ⟨cs, hK, hlc, hcs⟩ := castK_good H
  refine ⟨cs, hK, fun av w m R Rf val hav hs hkv => ?_⟩
  have hf0 : Fa (CR w noL (sel cl Rf R) (sel cl Rf R)) vs val.cells.toList := hkv.cells
  have hf : Fa (CR w m R Rf) cs val.cells.toList := by
    refine Fa.of_get (by rw [hlc, hct, ← hl]; exact hf0.length) fun j x u hx hu => ?_
    obtain ⟨c, hc, hr⟩ := hcs j x hx
    rw [Nat.zero_add] at hc
    obtain ⟨u', hu', hr'⟩ := hf0.get j c hc
    rw [hu] at hu'; cases hu'
    exact hr w m R Rf u hs hr'
  have h1 := oneT_spec ho
  rcases ofCells_good hav hf with ⟨ha, hr⟩ | ⟨ha, u, hu, hr⟩
  · rcases hkv with ⟨rfl, _⟩ | ⟨_, arr, rfl, _⟩
    · exact absurd hl.symm (h1.1 ha)
    · simpa [Value.cells] using hr
  · rcases hkv with ⟨rfl, hsc⟩ | ⟨hn, arr, rfl, hfa⟩
    · have : val.cells = #[val] := by cases val <;> first | rfl | simp [scalarV] at hsc
      rw [this] at hu
      cases hu; exact hr
    · exfalso
      have : P.cellsOf t = 1 := by
        by_cases e : P.cellsOf t = 1
        · exact e
        · have := h1.2 e; rw [ha] at this; cases this
      omega

theorem run_findKey {t : TypeId} {tys : List CT} {xs : List Value} {vk : Value} (ho : oneT P t = true) (hl : tys.length = P.cellsOf t) (K : Key P t tys xs vk) {es : List (List AC × List AC × Nat)} {ents : List MapEntry} {r : Option (Nat × List AC × Nat)}
    (H : mfind (xs.map .v) es 0 = some r) (hf : Fa EntR es ents) : ∃ q, FoundR ents r q ∧ (Instr.findKey t vk ents).run P w = .ok q w ∧ (∀ j v b, r = some (j, v, b) → ∃ e, ents[j]? = some e ∧ e.key = vk ∧ es[j]? = some (xs.map .v, v, b)) := by
  obtain ⟨q, h1, h2, h3, h4⟩ := mfind_spec ho hl K H hf (fun k => by rw [Nat.zero_add])
  obtain ⟨d, hd⟩ := eqCts_under K.eq
  refine ⟨q, h1, ?_, fun j v b hj => by obtain ⟨e, a1, a2, a3, a4⟩ := h4 j v b hj; exact ⟨e, a1, a2, by simpa using a4⟩⟩
  unfold Instr.findKey
  simp only [Sem.run_bind, run_under hd, Result.andThen_ok]
  cases hn : Instr.findNow d vk ents 0 with
  | none => exact h2 w
  | some q' => rw [h3 d q' hd hn]; rfl

theorem run_checkKey' {e : Bool} {t : TypeId} {tys : List CT} {xs : List Value} {vk : Value} (K : Key P t tys xs vk) : (Instr.checkKey e 10000 t vk).run P w = .ok () w := by
  obtain ⟨he, hf, rfl⟩ := K
  exact run_checkKey e 50 10000 t tys (by omega) he xs hf

theorem VR.pair {a b : AV} {x y : Value} (h1 : VR w m R Rf a x) (h2 : VR w m R Rf b y) : VR w m R Rf (.tup [a, b]) (.tuple #[x, y]) := by
  refine .tup _ rfl fun k c u hc hu => ?_
  match k with
  | 0 => simp at hc hu; subst hc; subst hu; exact h1
  | 1 => simp at hc hu; subst hc; subst hu; exact h2
  | k + 2 => simp at hc

def okV (ok : Bool) (v : AV) (b : Bool) : AV := match ok with | true => .tup [v, aBool b] | false => v
theorem lookupK_good {id : Nat} {t : TypeId} {x key : AV} {ok : Bool} {s : S} {K : KT β} {out : β} (H : lookupK P t x key ok s K = some out) :
    ∃ v rd, K v s rd [] = some out ∧ ∀ vx vk, Does B P id [] s.h rd [] v (fun w m R Rf => VR w m R Rf x vx ∧ VR w m R Rf key vk) fun _ => Instr.lookup t vx vk ok := by
  unfold lookupK at H
  split at H
  · rename_i k e id' ks hmt hks
    obtain ⟨hu, hok, hoe, hzs⟩ := mapT_spec hmt
    split at H
    · rename_i cl es clock z hget hz
      obtain ⟨i, zv, hi, hz1, rfl, hsc, hn⟩ := zeroCs_spec hz
      split at H
      · rename_i hc
        simp only [Bool.and_eq_true] at hc
        obtain ⟨⟨hkt, hfl⟩, hct⟩ := hc
        have hct := Nat.eq_of_beq_eq_true hct
        have H1 := bnd_some H
        clear H
        obtain ⟨⟨v0, b0⟩, hlook, H⟩ := H1
        split at H
        · rename_i hvl
          have hvl := Nat.eq_of_beq_eq_true hvl
          obtain ⟨cs, H, hread⟩ := read_KV (P := P) hoe hvl hct H (val := undef)
          split at H
          · rename_i av hav
            refine ⟨_, [id'], H, fun vx vk => ⟨by simp, fun w m R Rf hD hx hag hp hm I => ?_⟩⟩
            obtain ⟨tys, xs, rfl, hkey, hlen, hkv⟩ := keyT_spec hok hkt hks hx.2
            obtain ⟨b, ents, hm', hh, hf⟩ := I.br id' _ ((hag id' (by simp)).trans hget)
            have hfe : Fa EntR es ents.toList := hf
            cases hx.1.c_inv with
            | mp hm2 =>
              rw [hm'] at hm2; cases hm2
              unfold mlook at hlook
              have fin : ∀ (val : Value) (q : Option (Nat × Value)), KV v0 val → (Instr.findKey k vk ents.toList).run P w = .ok q w →
                  ((∃ j, q = some (j, val) ∧ b0 = true) ∨ (q = none ∧ b0 = false ∧ (zeroValue e).run P w = .ok val w)) →
                  ∃ val w', (Instr.lookup t (.map (some b)) vk ok).run P w = .ok val w' ∧ Post B id [] hD (okV ok av b0) w m R Rf val w' := by
                intro val q hkv' hfind hq
                have hv := hread av w m R Rf val hav I.sub hkv'
                refine ⟨if ok then .tuple #[val, .bool b0] else val, w, ?_, Post.same I ?_⟩
                · simp only [Instr.lookup, Sem.run_bind, run_under hu, Result.andThen_ok, run_getMap hh, Sem.run_pure, run_checkKey' hkey, hfind]
                  rcases hq with ⟨j, rfl, rfl⟩ | ⟨rfl, rfl, hz⟩
                  · simp only [Sem.run_bind, Sem.run_pure, Result.andThen_ok]
                  · simp only [Sem.run_bind, Sem.run_pure, Result.andThen_ok, hz]
                · cases ok
                  · exact hv
                  · exact hv.pair .bool
              split at hlook
              · rename_i j v born hmf
                cases hlook
                obtain ⟨q, hfo, hrun, _⟩ := run_findKey (P := P) (w := w) hok hlen hkey hmf hfe
                cases q with
                | none => exact absurd hfo (by simp [FoundR])
                | some p =>
                  obtain ⟨hj, e', h1, h2, h3, h4⟩ := hfo
                  exact fin p.2 _ h3 hrun (.inl ⟨p.1, rfl, rfl⟩)
              · rename_i hmf
                cases hlook
                obtain ⟨q, hfo, hrun, _⟩ := run_findKey (P := P) (w := w) hok hlen hkey hmf hfe
                cases q with
                | some p => exact absurd hfo (by simp [FoundR])
                | none => exact fin zv _ (zero_KV hoe hzs hi hz1 hsc hn) hrun (.inr ⟨rfl, rfl, run_zero hi hz1⟩)
              · cases hlook
          · cases H
        · cases H
      · cases H
    · cases H
  · cases H
end Go.AM

namespace Go.AM
open Go.RowKit

variable {B : Base} {w w' : World} {m : Lm} {R Rf : Bs} {h : Tr Buf} {P : Program} {β : Type}

theorem Fa.modify {α γ : Type} {r : α → γ → Prop} {x : List α} {y : Array γ} (hf : Fa r x y.toList) (i : Nat) (a' : α) (f : γ → γ) (h : ∀ b, y[i]? = some b → r a' (f b)) : Fa r (x.set i a') (y.modify i f).toList := by
  have hl := hf.length
  simp only [Array.length_toList] at hl
  refine Fa.of_get (by simp [hl]) fun k a b ha hb => ?_
  rw [Array.getElem?_toList, Array.getElem?_modify] at hb
  by_cases e : i = k
  · subst e
    have hlt : i < x.length := by
      have := (List.getElem?_eq_some_iff.1 ha).1
      simpa using this
    rw [List.getElem?_set_self hlt] at ha
    cases ha
    rw [if_pos rfl] at hb
    cases hy : y[i]? with
    | none => rw [hy] at hb; cases hb
    | some c => rw [hy] at hb; cases hb; exact h c hy
  · rw [List.getElem?_set_ne e] at ha
    rw [if_neg e] at hb
    obtain ⟨b', hb', hr⟩ := hf.get k a ha
    rw [Array.getElem?_toList, hb] at hb'; cases hb'; exact hr
theorem Fa.push {α γ : Type} {r : α → γ → Prop} {x : List α} {y : Array γ} (hf : Fa r x y.toList) {a : α} {b : γ} (h : r a b) : Fa r (x ++ [a]) (y.push b).toList := by
  rw [Array.toList_push]; exact hf.append (.cons h .nil)

theorem mapUpdateK_good {st : Bool} {id : Nat} {t : TypeId} {x key val : AV} {s : S} {K : KT β} {out : β} (H : mapUpdateK st P t x key val s K = some out) :
    ∃ U wr, K (.tup []) { s with h := applyU U s.h } [] wr = some out ∧ (∀ k ∈ U.map (·.1), k = id ∨ k ∈ wr) ∧
      ∀ (vx vk vv : Value) (w : World) (m : Lm) (R Rf : Bs) (hD : Tr Buf), VR w m R Rf x vx → VR w m R Rf key vk → VR w m R Rf val vv → (∀ i ∈ wr, hD.get i = s.h.get i) → Inv B w m R Rf hD →
        ∃ w', (Instr.mapUpdate t vx vk vv).run P w = .ok () w' ∧ ∃ R' Rf', Inv B w' m R' Rf' (applyU U hD) ∧ Ext w w' m m R R' Rf Rf' := by
  unfold mapUpdateK at H
  split at H
  · rename_i k e id' ks vs hmt hks hvs
    obtain ⟨hu, hok, hoe, hzs⟩ := mapT_spec hmt
    split at H
    · rename_i cl es clock hget
      split at H
      · rename_i hc
        simp only [Bool.and_eq_true] at hc
        obtain ⟨⟨hkt, hvv⟩, hvl⟩ := hc
        have H1 := bnd_some H
        clear H
        obtain ⟨⟨es', clock'⟩, hset, H⟩ := H1
        rw [putH_eq] at H
        refine ⟨[(id', some (.map cl es' clock'))], [id'], H, by simp, fun vx vk vv w m R Rf hD hx hk hv hag I => ?_⟩
        obtain ⟨tys, xs, rfl, hkey, hlen, hkv⟩ := keyT_spec hok hkt hks hk
        have hvkv := KV.of hvs hv hvv
        have hgD := (hag id' (by simp)).trans hget
        obtain ⟨b, ents, hm', hh, hf⟩ := I.br id' _ hgD
        have hfe : Fa EntR es ents.toList := hf
        cases hx.c_inv with
        | mp hm2 =>
          rw [hm'] at hm2; cases hm2
          unfold mset at hset
          split at hset
          · rename_i j v born hmf
            cases hset
            obtain ⟨q, hfo, hrun, hkk⟩ := run_findKey (P := P) (w := w) hok hlen hkey hmf hfe
            obtain ⟨e1, a1, a2, a3⟩ := hkk j v born rfl
            cases q with
            | none => exact absurd hfo (by simp [FoundR])
            | some p =>
              obtain ⟨hj, e', h1, h2, h3, h4⟩ := hfo
              obtain ⟨p1, p2⟩ := p
              simp only at hj
              subst hj
              rw [a1] at h1; cases h1
              have hat : ents[p1]? = some e1 := by rw [← Array.getElem?_toList]; exact a1
              obtain ⟨I', E'⟩ := I.writeMap (es' := es.set p1 (xs.map .v, vs, born)) (clock' := clock) (ents' := ents.modify p1 fun e => { e with key := vk, val := vv }) hgD hm' hh
                (hfe.modify p1 _ _ fun c hc => by rw [hat] at hc; cases hc; exact ⟨hkv, hvkv, h4⟩)
              refine ⟨_, ?_, R, Rf, I', E'⟩
              simp only [Instr.mapUpdate, Sem.run_bind, run_under hu, Result.andThen_ok, run_getMap hh, run_checkKey' hkey, hrun, hat, Option.map_some, Option.getD_some, a2, run_keyStays hkey]
              exact run_setMap hh
          · rename_i hmf
            cases hset
            obtain ⟨q, hfo, hrun, hkk⟩ := run_findKey (P := P) (w := w) hok hlen hkey hmf hfe
            cases q with
            | some p => exact absurd hfo (by simp [FoundR])
            | none =>
              obtain ⟨I', E'⟩ := I.writeMap (es' := es ++ [(xs.map .v, vs, clock)]) (clock' := clock + 1) (ents' := ents.push { key := vk, val := vv, born := clock }) hgD hm' hh (hfe.push ⟨hkv, hvkv, rfl⟩)
              refine ⟨_, ?_, R, Rf, I', E'⟩
              simp only [Instr.mapUpdate, Sem.run_bind, run_under hu, Result.andThen_ok, run_getMap hh, run_checkKey' hkey, hrun]
              exact run_setMap hh
          · cases hset
      · cases H
    · cases H
  · cases H

theorem mapEntryK_good' {st : Bool} {id : Nat} {t : TypeId} {x key : AV} {s : S} {K : KT β} {out : β} (H : mapEntryK st P t x key s K = some out) :
    ∃ v U rd wr, K v { s with h := applyU U s.h } rd wr = some out ∧ (∃ k e id ks cl es clock z r, mapT P t = some (k, e) ∧ x = .c (.mp id) ∧ key.cellsM = some ks ∧ s.h.get id = some (.map cl es clock) ∧ zeroCs P e = some z ∧ ment es clock ks z = some r ∧ U = [(id, some (.map cl r.1 r.2.1))] ∧ rd = [] ∧ wr = [id]) ∧ ∀ vx vk, Does B P id U s.h rd wr v (fun w m R Rf => VR w m R Rf x vx ∧ VR w m R Rf key vk) fun _ => Instr.mapEntry t vx vk := by
  unfold mapEntryK at H
  split at H
  · rename_i k e id' ks hmt hks
    obtain ⟨hu, hok, hoe, hzs⟩ := mapT_spec hmt
    split at H
    · rename_i cl es clock z hget hz
      obtain ⟨i, zv, hi, hz1, rfl, hsc, hn⟩ := zeroCs_spec hz
      split at H
      · rename_i hc
        simp only [Bool.and_eq_true] at hc
        obtain ⟨⟨hkt, hfl⟩, hct⟩ := hc
        have hct := Nat.eq_of_beq_eq_true hct
        have H1 := bnd_some H
        clear H
        obtain ⟨⟨es', clock', v0, born0⟩, hent, H⟩ := H1
        split at H
        · rename_i hvl
          have hvl := Nat.eq_of_beq_eq_true hvl
          obtain ⟨cs, H, hread⟩ := read_KV (P := P) hoe hvl hct H (val := undef)
          split at H
          · rename_i av hav
            rw [putH_eq] at H
            refine ⟨_, [(id', some (.map cl es' clock'))], [], [id'], H, ⟨k, e, id', ks, cl, es, clock, _, _, hmt, rfl, hks, hget, hz, hent, rfl, rfl, rfl⟩, fun vx vk => ⟨by simp, fun w m R Rf hD hx hag hp hm I => ?_⟩⟩
            obtain ⟨tys, xs, rfl, hkey, hlen, hkv⟩ := keyT_spec hok hkt hks hx.2
            have hgD := (hag id' (by simp)).trans hget
            obtain ⟨b, ents, hm', hh, hf⟩ := I.br id' _ hgD
            have hfe : Fa EntR es ents.toList := hf
            cases hx.1.c_inv with
            | mp hm2 =>
              rw [hm'] at hm2; cases hm2
              unfold ment at hent
              split at hent
              · rename_i j v born hmf
                cases hent
                obtain ⟨q, hfo, hrun, hkk⟩ := run_findKey (P := P) (w := w) hok hlen hkey hmf hfe
                obtain ⟨e1, a1, a2, a3⟩ := hkk j v0 born0 rfl
                cases q with
                | none => exact absurd hfo (by simp [FoundR])
                | some p =>
                  obtain ⟨hj, e', h1, h2, h3, h4⟩ := hfo
                  obtain ⟨p1, p2⟩ := p
                  simp only at hj h2 h3
                  subst hj
                  rw [a1] at h1; cases h1
                  have hat : ents[p1]? = some e1 := by rw [← Array.getElem?_toList]; exact a1
                  obtain ⟨I', E'⟩ := I.writeMap (es' := es.set p1 (xs.map .v, v0, born0)) (clock' := clock) (ents' := ents.modify p1 fun e => { e with key := vk }) hgD hm' hh
                    (hfe.modify p1 _ _ fun c hc => by rw [hat] at hc; cases hc; exact ⟨hkv, h2 ▸ h3, h4⟩)
                  refine ⟨_, _, ?_, m, R, Rf, I', (hread av _ m R Rf p2 hav I'.sub h3).pair (.int (n := (born0 : Nat))), E', fun _ _ => rfl⟩
                  simp only [Instr.mapEntry, Sem.run_bind, run_under hu, Result.andThen_ok, run_getMap hh, run_checkKey' hkey, hrun, hat, Option.map_some, Option.getD_some, a2, run_keyStays hkey, run_setMap hh, Sem.run_pure, goInt, h4]
              · rename_i hmf
                cases hent
                obtain ⟨q, hfo, hrun, hkk⟩ := run_findKey (P := P) (w := w) hok hlen hkey hmf hfe
                cases q with
                | some p => exact absurd hfo (by simp [FoundR])
                | none =>
                  have hzk := zero_KV hoe hzs hi hz1 hsc hn
                  obtain ⟨I', E'⟩ := I.writeMap (es' := es ++ [(xs.map .v, zv.cells.toList.map .v, clock)]) (clock' := clock + 1) (ents' := ents.push { key := vk, val := zv, born := clock }) hgD hm' hh (hfe.push ⟨hkv, hzk, rfl⟩)
                  refine ⟨_, _, ?_, m, R, Rf, I', (hread av _ m R Rf zv hav I'.sub hzk).pair (.int (n := (clock : Nat))), E', fun _ _ => rfl⟩
                  simp only [Instr.mapEntry, Sem.run_bind, run_under hu, Result.andThen_ok, run_getMap hh, run_checkKey' hkey, hrun, run_zero hi hz1, run_setMap hh, Sem.run_pure, goInt]
              · cases hent
          · cases H
        · cases H
      · cases H
    · cases H
  · cases H

theorem mapEntryK_good {st : Bool} {id : Nat} {t : TypeId} {x key : AV} {s : S} {K : KT β} {out : β} (H : mapEntryK st P t x key s K = some out) :
    ∃ v U rd wr, K v { s with h := applyU U s.h } rd wr = some out ∧ ∀ vx vk, Does B P id U s.h rd wr v (fun w m R Rf => VR w m R Rf x vx ∧ VR w m R Rf key vk) fun _ => Instr.mapEntry t vx vk := by
  obtain ⟨v, U, rd, wr, h1, _, h2⟩ := mapEntryK_good' (B := B) (id := id) H
  exact ⟨v, U, rd, wr, h1, h2⟩

theorem mborn_spec {born : Int} : ∀ {es : List (List AC × List AC × Nat)} {ents : List MapEntry} {i j : Nat}, mborn born es i = some j → Fa EntR es ents → i ≤ j ∧ ents.findIdx? (fun e => (e.born : Int) == born) = some (j - i)
  | [], ents, i, j, h, hf => by cases h
  | (k, v, b) :: r, _, i, j, h, .cons (b := e) (y := ents) hx hf => by
    unfold mborn at h
    have hb : e.born = b := hx.2.2
    split at h
    · rename_i hq
      cases h
      refine ⟨Nat.le_refl _, ?_⟩
      rw [List.findIdx?_cons, hb, hq]; simp
    · rename_i hq
      obtain ⟨h1, h2⟩ := mborn_spec h hf
      refine ⟨by omega, ?_⟩
      rw [List.findIdx?_cons, hb, hq, h2]
      simp; omega

theorem entryStoreK_good {st : Bool} {id : Nat} {x sm val : AV} {s : S} {K : KT β} {out : β} (H : entryStoreK st x sm val s K = some out) :
    ∃ U wr, K (.tup []) { s with h := applyU U s.h } [] wr = some out ∧ (∀ k ∈ U.map (·.1), k = id ∨ k ∈ wr) ∧
      ∀ (t : TypeId) (vx vs vv : Value) (w : World) (m : Lm) (R Rf : Bs) (hD : Tr Buf), VR w m R Rf x vx → VR w m R Rf sm vs → VR w m R Rf val vv → (∀ i ∈ wr, hD.get i = s.h.get i) → Inv B w m R Rf hD →
        ∃ w', (Instr.entryStore t vx vs vv).run P w = .ok () w' ∧ ∃ R' Rf', Inv B w' m R' Rf' (applyU U hD) ∧ Ext w w' m m R R' Rf Rf' := by
  unfold entryStoreK at H
  split at H
  · rename_i id' k n vs hvs
    split at H
    · rename_i cl es clock hget
      split at H
      · rename_i hvv
        have H1 := bnd_some H
        clear H
        obtain ⟨es', hput, H⟩ := H1
        rw [putH_eq] at H
        refine ⟨[(id', some (.map cl es' clock))], [id'], H, by simp, fun t vx vsm vv w m R Rf hD hx hs hv hag I => ?_⟩
        have := hs.v_inv; subst this
        have hvkv := KV.of hvs hv hvv
        have hgD := (hag id' (by simp)).trans hget
        obtain ⟨b, ents, hm', hh, hf⟩ := I.br id' _ hgD
        have hfe : Fa EntR es ents.toList := hf
        cases hx.c_inv with
        | mp hm2 =>
          rw [hm'] at hm2; cases hm2
          unfold mput at hput
          split at hput
          · rename_i j hmb
            split at hput
            · rename_i kk v0 bb hat
              cases hput
              obtain ⟨_, hidx⟩ := mborn_spec hmb hfe
              rw [Nat.sub_zero] at hidx
              obtain ⟨e1, a1, hr1⟩ := hfe.get j _ hat
              rw [Array.getElem?_toList] at a1
              obtain ⟨I', E'⟩ := I.writeMap (es' := es.set j (kk, vs, bb)) (clock' := clock) (ents' := ents.modify j fun e => { e with val := vv }) hgD hm' hh
                (hfe.modify j _ _ fun c hc => by rw [a1] at hc; cases hc; exact ⟨hr1.1, hvkv, hr1.2.2⟩)
              refine ⟨_, ?_, R, Rf, I', E'⟩
              have hidx' : ents.findIdx? (fun e => (e.born : Int) == n) = some j := by
                have : ents = ents.toList.toArray := by simp
                rw [this, List.findIdx?_toArray]; exact hidx
              simp only [Instr.entryStore, Sem.run_bind, Result.andThen_ok, run_getMap hh, asInt, asIntOf, Sem.run_pure, hidx']
              exact run_setMap hh
            · cases hput
          · cases hput
      · cases H
    · cases H
  · cases H
end Go.AM

namespace Go.AM
open Go.RowKit

variable {B : Base} {w w' : World} {m : Lm} {R Rf : Bs} {h : Tr Buf} {P : Program} {β : Type}

/-- Operands mean what the machine says. -/
def EnvR (o : Oper) (s : S) (w : World) (m : Lm) (R Rf : Bs) (ρ : Operand → Value) : Prop := ∀ x ∈ o.op.operands.toList, ∀ a, s.op x = some a → VR w m R Rf a (ρ x)

/-- What an op answers: a value, or nothing. -/
def Ans (v : AV) (n : Next) (val : Value) : Prop := n = .value val ∨ (n = .skip ∧ v = .tup [] ∧ val = undef)

/-- The op of the model does what the machine says. -/
def Good (B : Base) (P : Program) (o : Oper) (id : Nat) (s : S) (v : AV) (U : List (Nat × Option Buf)) (rd wr : List Nat) : Prop :=
  (∀ k ∈ U.map (·.1), k = id ∨ k ∈ wr) ∧
  ∀ (w : World) (m : Lm) (R Rf : Bs) (hD : Tr Buf) (ρ : Operand → Value), EnvR o s w m R Rf ρ → (∀ i ∈ rd ++ wr, hD.get i = s.h.get i) → B.p ≤ id → m id = none → Inv B w m R Rf hD →
    ∃ n val w', (execOp ρ o).run P w = .ok n w' ∧ Ans v n val ∧ Post B id U hD v w m R Rf val w'

def OK (B : Base) (P : Program) (o : Oper) (id : Nat) (s : S) (K : KT β) (out : β) : Prop :=
  ∃ v U rd wr, K v { s with h := applyU U s.h } rd wr = some out ∧ Good B P o id s v U rd wr

theorem OK.of_does {o : Oper} {id : Nat} {s : S} {K : KT β} {out : β} {v : AV} {U : List (Nat × Option Buf)} {rd wr : List Nat} (hK : K v { s with h := applyU U s.h } rd wr = some out)
    (hyp : (Operand → Value) → World → Lm → Bs → Bs → Prop) (x : (Operand → Value) → Sem Value) (hx : ∀ ρ, execOp ρ o = (do pure (.value (← x ρ))))
    (hd : ∀ ρ, Does B P id U s.h rd wr v (hyp ρ) fun _ => x ρ) (hh : ∀ w m R Rf ρ, EnvR o s w m R Rf ρ → hyp ρ w m R Rf) : OK B P o id s K out := by
  refine ⟨v, U, rd, wr, hK, (hd fun _ => undef).1, fun w m R Rf hD ρ he hag hp hm I => ?_⟩
  obtain ⟨val, w', h1, h2⟩ := (hd ρ).2 w m R Rf hD (hh w m R Rf ρ he) hag hp hm I
  refine ⟨.value val, val, w', ?_, .inl rfl, h2⟩
  rw [hx]
  simp only [Sem.run_bind, h1, Result.andThen_ok, Sem.run_pure]

theorem OK.of_pure {o : Oper} {id : Nat} {s : S} {K : KT β} {out : β} {v : AV} (hK : K v s [] [] = some out) (x : (Operand → Value) → Sem Next)
    (hx : ∀ ρ, execOp ρ o = x ρ) (hd : ∀ w m R Rf ρ, EnvR o s w m R Rf ρ → ∃ val, (x ρ).run P w = .ok (.value val) w ∧ VR w m R Rf v val) : OK B P o id s K out := by
  refine ⟨v, [], [], [], hK, by simp, fun w m R Rf hD ρ he hag hp hm I => ?_⟩
  obtain ⟨val, h1, h2⟩ := hd w m R Rf ρ he
  exact ⟨.value val, val, w, by rw [hx]; exact h1, .inl rfl, Post.same I h2⟩

theorem OK.of_unit {o : Oper} {id : Nat} {s : S} {K : KT β} {out : β} {U : List (Nat × Option Buf)} {wr : List Nat} (hK : K (.tup []) { s with h := applyU U s.h } [] wr = some out) (hkeys : ∀ k ∈ U.map (·.1), k = id ∨ k ∈ wr) (x : (Operand → Value) → Sem Unit)
    (hx : ∀ ρ, execOp ρ o = (do x ρ; pure .skip))
    (hd : ∀ w m R Rf hD ρ, EnvR o s w m R Rf ρ → (∀ i ∈ wr, hD.get i = s.h.get i) → Inv B w m R Rf hD → ∃ w', (x ρ).run P w = .ok () w' ∧ ∃ R' Rf', Inv B w' m R' Rf' (applyU U hD) ∧ Ext w w' m m R R' Rf Rf') : OK B P o id s K out := by
  refine ⟨.tup [], U, [], wr, hK, hkeys, fun w m R Rf hD ρ he hag hp hm I => ?_⟩
  obtain ⟨w', h1, R', Rf', h2, h3⟩ := hd w m R Rf hD ρ he (fun i hi => hag i (by simpa using hi)) I
  refine ⟨.skip, undef, w', ?_, .inr ⟨rfl, rfl, rfl⟩, m, R', Rf', h2, VR.undef, h3, fun _ _ => rfl⟩
  rw [hx]
  simp only [Sem.run_bind, h1, Result.andThen_ok, Sem.run_pure]
end Go.AM

namespace Go.AM
open Go.RowKit

variable {B : Base} {w w' : World} {m : Lm} {R Rf : Bs} {h : Tr Buf} {P : Program} {β : Type} {st : Bool} {id : Nat} {s : S} {K : KT β} {out : β} {o : Oper}

theorem oMove_ok {x : Operand} (ho : ∀ ρ, execOp ρ o = pure (.value (ρ x))) (hin : x ∈ o.op.operands.toList) (H : oMove x st P id s K = some out) : OK B P o id s K out := by
  unfold oMove at H
  split at H
  · rename_i v hv
    exact OK.of_pure H (fun ρ => pure (.value (ρ x))) ho fun w m R Rf ρ he => ⟨ρ x, rfl, he x hin v hv⟩
  · cases H
theorem oPick_ok {c a b : Operand} (ho : o.op = .pick c a b) (H : oPick c a b st P id s K = some out) : OK B P o id s K out := by
  unfold oPick at H
  split at H
  · rename_i q hq
    split at H
    · rename_i x y hx hy
      obtain ⟨r, hK, hr⟩ := selK_good H
      refine OK.of_pure hK (fun ρ => do pure (.value (if ← asBool (ρ c) then ρ a else ρ b))) (fun ρ => by simp only [execOp, ho]) fun w m R Rf ρ he => ?_
      have hc := (he c (by simp [ho, Op.operands, Call.operands]) _ hq).v_inv
      refine ⟨if q then ρ a else ρ b, ?_, hr w m R Rf _ _ (he a (by simp [ho, Op.operands, Call.operands]) _ hx) (he b (by simp [ho, Op.operands, Call.operands]) _ hy)⟩
      rw [hc]
      cases q <;> simp [asBool]
    · cases H
  · cases H
theorem oAlloc_ok {t : TypeId} (ho : o.op = .alloc t) (H : oAlloc t st P id s K = some out) : OK B P o id s K out := by
  obtain ⟨v, U, rd, wr, hK, hd⟩ := allocK_good (B := B) H
  exact OK.of_does hK (fun _ _ _ _ _ => True) (fun _ => Instr.alloc t true (.tuple #[])) (fun ρ => by simp only [execOp, ho]) (fun _ => hd) fun _ _ _ _ _ _ => trivial
theorem oBox_ok {t : TypeId} {x : Operand} (ho : o.op = .box t x) (H : oBox t x st P id s K = some out) : OK B P o id s K out := by
  unfold oBox at H
  split at H
  · rename_i a ha
    obtain ⟨v, U, rd, wr, hK, hd⟩ := boxK_good (B := B) H
    exact OK.of_does hK (fun ρ w m R Rf => VR w m R Rf a (ρ x)) (fun ρ => Instr.box t (ρ x)) (fun ρ => by simp only [execOp, ho]) (fun ρ => hd (ρ x)) fun w m R Rf ρ he => he x (by simp [ho, Op.operands, Call.operands]) a ha
  · cases H
theorem oLoad_ok {t : TypeId} {a : Operand} (ho : o.op = .load t a) (H : oLoad t a st P id s K = some out) : OK B P o id s K out := by
  unfold oLoad at H
  split at H
  · rename_i x hx
    obtain ⟨v, rd, hK, hd⟩ := loadK_good (B := B) (id := id) H
    exact OK.of_does (U := []) hK (fun ρ w m R Rf => CR w m R Rf x (ρ a)) (fun ρ => Instr.loadAt t (ρ a)) (fun ρ => by simp only [execOp, ho]) (fun ρ => hd (ρ a)) fun w m R Rf ρ he => (he a (by simp [ho, Op.operands, Call.operands]) _ hx).c_inv
  · cases H
theorem oStore_ok {t : TypeId} {a x : Operand} (ho : o.op = .store t a x) (H : oStore t a x st P id s K = some out) : OK B P o id s K out := by
  unfold oStore at H
  split at H
  · rename_i p v hp hv
    obtain ⟨U, wr, hK, hk, hd⟩ := storeK_good (id := id) H
    exact OK.of_unit hK hk (fun ρ => Instr.storeAt t (ρ a) (ρ x)) (fun ρ => by simp only [execOp, ho]) fun w m R Rf hD ρ he hag I => hd _ _ w m R Rf hD (he a (by simp [ho, Op.operands, Call.operands]) _ hp).c_inv (he x (by simp [ho, Op.operands, Call.operands]) _ hv) hag I
  · cases H
theorem oNilCheck_ok {x : Operand} (ho : o.op = .nilCheck x) (H : oNilCheck x st P id s K = some out) : OK B P o id s K out := by
  unfold oNilCheck at H
  split at H
  · rename_i v hv
    obtain ⟨hK, hr⟩ := nilCheck_good H
    refine OK.of_pure hK (fun ρ => execOp ρ o) (fun _ => rfl) fun w m R Rf ρ he => ⟨ρ x, ?_, he x (by simp [ho, Op.operands, Call.operands]) v hv⟩
    rcases hr w m R Rf _ (he x (by simp [ho, Op.operands, Call.operands]) v hv) with ⟨a, ha⟩ | ⟨f, a, ha⟩
    · simp only [execOp, ho, ha, Sem.run_pure]
    · simp only [execOp, ho, ha, Sem.run_pure]
  · cases H
theorem oBin_ok {op : BinOp} {t : TypeId} {x y : Operand} {g : _} (ho : o.op = .binOp op t x y g) (H : oBin op t x y st P id s K = some out) : OK B P o id s K out := by
  unfold oBin at H
  split at H
  · rename_i v u hv hu
    obtain ⟨r, hK, hr⟩ := binK_good H
    refine OK.of_pure hK (fun ρ => execOp ρ o) (fun _ => rfl) fun w m R Rf ρ he => ?_
    obtain ⟨val, h1, h2⟩ := hr w m R Rf _ _ x y (he x (by simp [ho, Op.operands, Call.operands]) _ hv) (he y (by simp [ho, Op.operands, Call.operands]) _ hu)
    refine ⟨val, ?_, h2⟩
    simp only [execOp, ho]
    rw [Sem.run_bind, h1]
    rfl
  · cases H
theorem oUn_ok {op : UnOp} {t : TypeId} {x : Operand} (ho : o.op = .unOp op t x) (H : oUn op x st P id s K = some out) : OK B P o id s K out := by
  unfold oUn at H
  split at H
  · rename_i v hv
    obtain ⟨r, hK, hr⟩ := unK_good H
    refine OK.of_pure hK (fun ρ => execOp ρ o) (fun _ => rfl) fun w m R Rf ρ he => ?_
    obtain ⟨val, h1, h2⟩ := hr w m R Rf _ (he x (by simp [ho, Op.operands, Call.operands]) _ hv)
    refine ⟨val, ?_, h2⟩
    simp only [execOp, ho]
    rw [Sem.run_bind, h1]
    rfl
  · cases H
theorem oConv_ok {a b : TypeId} {x : Operand} (ho : o.op = .convert a b x) (H : oConv a b x st P id s K = some out) : OK B P o id s K out := by
  unfold oConv at H
  split at H
  · rename_i v hv
    obtain ⟨r, U, rd, wr, hK, hd⟩ := convK_good (B := B) H
    exact OK.of_does hK (fun ρ w m R Rf => VR w m R Rf v (ρ x)) (fun ρ => convert a b (ρ x)) (fun ρ => by simp only [execOp, ho]) (fun ρ => hd (ρ x)) fun w m R Rf ρ he => he x (by simp [ho, Op.operands, Call.operands]) _ hv
  · cases H
theorem oFieldAddr_ok {t : TypeId} {x : Operand} {f : Nat} (ho : o.op = .fieldAddr t x f) (H : oFieldAddr t x f st P id s K = some out) : OK B P o id s K out := by
  unfold oFieldAddr at H
  split at H
  · rename_i v hv
    obtain ⟨r, hK, hr⟩ := fieldAddrK_good H
    refine OK.of_pure hK (fun ρ => execOp ρ o) (fun _ => rfl) fun w m R Rf ρ he => ?_
    obtain ⟨val, h1, h2⟩ := hr w m R Rf _ (he x (by simp [ho, Op.operands, Call.operands]) _ hv)
    refine ⟨val, ?_, h2⟩
    simp only [execOp, ho]
    rw [Sem.run_bind, h1]
    rfl
  · cases H
theorem oField_ok {t : TypeId} {x : Operand} {f : Nat} (ho : o.op = .field t x f) (H : oField t x f st P id s K = some out) : OK B P o id s K out := by
  unfold oField at H
  split at H
  · rename_i v hv
    obtain ⟨r, hK, hr⟩ := fieldK_good H
    refine OK.of_pure hK (fun ρ => execOp ρ o) (fun _ => rfl) fun w m R Rf ρ he => ?_
    obtain ⟨val, h1, h2⟩ := hr w m R Rf _ (he x (by simp [ho, Op.operands, Call.operands]) _ hv)
    refine ⟨val, ?_, h2⟩
    simp only [execOp, ho]
    rw [Sem.run_bind, h1]
    rfl
  · cases H
theorem oIndexAddr_ok {t : TypeId} {x i : Operand} (ho : o.op = .indexAddr t x i) (H : oIndexAddr t x i st P id s K = some out) : OK B P o id s K out := by
  unfold oIndexAddr at H
  split at H
  · rename_i v u hv hu
    obtain ⟨r, rd, hK, hd⟩ := indexAddrK_good (B := B) (id := id) H
    exact OK.of_does (U := []) hK (fun ρ w m R Rf => VR w m R Rf v (ρ x) ∧ VR w m R Rf u (ρ i)) (fun ρ => Instr.indexAt t (ρ x) (ρ i)) (fun ρ => by simp only [execOp, ho]) (fun ρ => hd (ρ x) (ρ i)) fun w m R Rf ρ he => ⟨he x (by simp [ho, Op.operands, Call.operands]) _ hv, he i (by simp [ho, Op.operands, Call.operands]) _ hu⟩
  · cases H
theorem oIndex_ok {t : TypeId} {x i : Operand} (ho : o.op = .index t x i) (H : oIndex t x i st P id s K = some out) : OK B P o id s K out := by
  unfold oIndex at H
  split at H
  · rename_i v u hv hu
    obtain ⟨r, hK, hr⟩ := indexK_good H
    refine OK.of_pure hK (fun ρ => execOp ρ o) (fun _ => rfl) fun w m R Rf ρ he => ?_
    obtain ⟨val, h1, h2⟩ := hr w m R Rf _ _ (he x (by simp [ho, Op.operands, Call.operands]) _ hv) (he i (by simp [ho, Op.operands, Call.operands]) _ hu)
    refine ⟨val, ?_, h2⟩
    simp only [execOp, ho]
    rw [Sem.run_bind, h1]
    rfl
  · cases H
theorem oLookup_ok {t : TypeId} {x i : Operand} {k : Bool} (ho : o.op = .lookup t x i k) (H : oLookup t x i k st P id s K = some out) : OK B P o id s K out := by
  unfold oLookup at H
  split at H
  · rename_i v u hv hu
    obtain ⟨r, rd, hK, hd⟩ := lookupK_good (B := B) (id := id) H
    exact OK.of_does (U := []) hK (fun ρ w m R Rf => VR w m R Rf v (ρ x) ∧ VR w m R Rf u (ρ i)) (fun ρ => Instr.lookup t (ρ x) (ρ i) k) (fun ρ => by simp only [execOp, ho]) (fun ρ => hd (ρ x) (ρ i)) fun w m R Rf ρ he => ⟨he x (by simp [ho, Op.operands, Call.operands]) _ hv, he i (by simp [ho, Op.operands, Call.operands]) _ hu⟩
  · cases H
theorem oMapUpdate_ok {t : TypeId} {a k x : Operand} (ho : o.op = .mapUpdate t a k x) (H : oMapUpdate t a k x st P id s K = some out) : OK B P o id s K out := by
  unfold oMapUpdate at H
  split at H
  · rename_i v u y hv hu hy
    obtain ⟨U, wr, hK, hk, hd⟩ := mapUpdateK_good (id := id) H
    exact OK.of_unit hK hk (fun ρ => Instr.mapUpdate t (ρ a) (ρ k) (ρ x)) (fun ρ => by simp only [execOp, ho]) fun w m R Rf hD ρ he hag I => hd _ _ _ w m R Rf hD (he a (by simp [ho, Op.operands, Call.operands]) _ hv) (he k (by simp [ho, Op.operands, Call.operands]) _ hu) (he x (by simp [ho, Op.operands, Call.operands]) _ hy) hag I
  · cases H
theorem oMapEntry_ok {t : TypeId} {x i : Operand} (ho : o.op = .mapEntry t x i) (H : oMapEntry t x i st P id s K = some out) : OK B P o id s K out := by
  unfold oMapEntry at H
  split at H
  · rename_i v u hv hu
    obtain ⟨r, U, rd, wr, hK, hd⟩ := mapEntryK_good (B := B) (id := id) H
    exact OK.of_does hK (fun ρ w m R Rf => VR w m R Rf v (ρ x) ∧ VR w m R Rf u (ρ i)) (fun ρ => Instr.mapEntry t (ρ x) (ρ i)) (fun ρ => by simp only [execOp, ho]) (fun ρ => hd (ρ x) (ρ i)) fun w m R Rf ρ he => ⟨he x (by simp [ho, Op.operands, Call.operands]) _ hv, he i (by simp [ho, Op.operands, Call.operands]) _ hu⟩
  · cases H
theorem oEntryStore_ok {t : TypeId} {a k x : Operand} (ho : o.op = .entryStore t a k x) (H : oEntryStore a k x st P id s K = some out) : OK B P o id s K out := by
  unfold oEntryStore at H
  split at H
  · rename_i v u y hv hu hy
    obtain ⟨U, wr, hK, hk, hd⟩ := entryStoreK_good (id := id) H
    exact OK.of_unit hK hk (fun ρ => Instr.entryStore t (ρ a) (ρ k) (ρ x)) (fun ρ => by simp only [execOp, ho]) fun w m R Rf hD ρ he hag I => hd _ _ _ _ w m R Rf hD (he a (by simp [ho, Op.operands, Call.operands]) _ hv) (he k (by simp [ho, Op.operands, Call.operands]) _ hu) (he x (by simp [ho, Op.operands, Call.operands]) _ hy) hag I
  · cases H
theorem oMakeSlice_ok {t : TypeId} {x i : Operand} (ho : o.op = .makeSlice t x i) (H : oMakeSlice t x i st P id s K = some out) : OK B P o id s K out := by
  unfold oMakeSlice at H
  split at H
  · rename_i v u hv hu
    obtain ⟨r, U, rd, wr, hK, hd⟩ := makeSliceK_good (B := B) (id := id) H
    exact OK.of_does hK (fun ρ w m R Rf => VR w m R Rf v (ρ x) ∧ VR w m R Rf u (ρ i)) (fun ρ => Instr.makeSlice t (ρ x) (ρ i)) (fun ρ => by simp only [execOp, ho]) (fun ρ => hd (ρ x) (ρ i)) fun w m R Rf ρ he => ⟨he x (by simp [ho, Op.operands, Call.operands]) _ hv, he i (by simp [ho, Op.operands, Call.operands]) _ hu⟩
  · cases H
theorem oExtract_ok {t : Operand} {ix : Nat} (ho : o.op = .extract t ix) (H : oExtract t ix st P id s K = some out) : OK B P o id s K out := by
  unfold oExtract at H
  split at H
  · rename_i vs hv
    split at H
    · rename_i v hix
      refine OK.of_pure H (fun ρ => execOp ρ o) (fun _ => rfl) fun w m R Rf ρ he => ?_
      have := he t (by simp [ho, Op.operands, Call.operands]) _ hv
      generalize ht : ρ t = tv at this
      cases this with
      | tup arr hl hh =>
        have hlt : ix < arr.size := by
          have := (List.getElem?_eq_some_iff.1 hix).1
          omega
        refine ⟨arr[ix], ?_, hh ix v _ hix (by simp [hlt])⟩
        simp [execOp, ho, ht, Instr.extract, hlt]
    · cases H
  · cases H
end Go.AM

namespace Go.AM
open Go.RowKit

variable {B : Base} {w w' : World} {m : Lm} {R Rf : Bs} {h : Tr Buf} {P : Program} {β : Type} {st : Bool} {id : Nat} {s : S} {K : KT β} {out : β} {o : Oper}

theorem parts_fa {ρ : Operand → Value} (he : EnvR o s w m R Rf ρ) : ∀ {parts : List (Nat × Operand)}, (∀ p ∈ parts, ∃ a, s.op p.2 = some a) → (∀ p ∈ parts, p.2 ∈ o.op.operands.toList) → Fa (PartR s w m R Rf) parts (parts.map fun p => (p.1, ρ p.2))
  | [], _, _ => .nil
  | p :: r, h, hin => .cons ⟨rfl, by obtain ⟨a, ha⟩ := h p (by simp); exact ⟨a, ha, he _ (hin p (by simp)) _ ha⟩⟩ (parts_fa he (fun q hq => h q (by simp [hq])) fun q hq => hin q (by simp [hq]))
theorem fillC_ops {place : Nat → Option (Nat × Nat)} : ∀ {parts : List (Nat × Operand)} {cs out : List AC}, fillC s place parts cs = some out → ∀ p ∈ parts, ∃ a, s.op p.2 = some a
  | [], _, _, _ => by simp
  | (i, x) :: r, cs, out, H => fun p hp => by
    unfold fillC at H
    split at H
    · rename_i o n av hpl hop
      split at H
      · split at H
        · rcases List.mem_cons.1 hp with rfl | hp
          · exact ⟨_, hop⟩
          · exact fillC_ops H p hp
        · cases H
      · cases H
    · cases H
theorem fillR_ops {sz : Nat} {k : List (List AC) → Bool → List Nat → Tr Buf → Option β} : ∀ {parts : List (Nat × Operand)} {es : List (List AC)} {f : Bool} {ids : List Nat} {h : Tr Buf}, fillR s sz parts es f ids h k = some out → ∀ p ∈ parts, ∃ a, s.op p.2 = some a
  | [], _, _, _, _, _ => by simp
  | (i, x) :: r, es, f, ids, h, H => fun p hp => by
    unfold fillR at H
    split at H
    · rename_i av hop
      split at H
      · split at H
        · rcases List.mem_cons.1 hp with rfl | hp
          · exact ⟨_, hop⟩
          · rw [closeK_eq] at H
            cases hcl : closeCs h _ with
            | none => rw [hcl] at H; cases H
            | some q =>
              rw [hcl] at H
              exact fillR_ops H p hp
        · cases H
      · cases H
    · cases H

theorem oBuild_ok {t : TypeId} {ps : Array (Nat × Operand)} (ho : o.op = .build t ps) (H : oBuild t ps st P id s K = some out) : OK B P o id s K out := by
  have H0 : buildK P t ps.toList s K = some out := H
  have hops : ∀ p ∈ ps.toList, ∃ a, s.op p.2 = some a := by
    unfold buildK at H0
    split at H0
    · split at H0
      · rename_i hf; exact fillC_ops hf
      · cases H0
    · cases H0
  obtain ⟨v, hK, hd⟩ := buildK_good H0
  refine OK.of_pure hK (fun ρ => execOp ρ o) (fun _ => rfl) fun w m R Rf ρ he => ?_
  obtain ⟨val, h1, h2⟩ := hd w m R Rf _ (parts_fa he hops (fun p hp => by simp only [ho, Op.operands]; exact List.mem_map_of_mem (f := (·.2)) hp))
  refine ⟨val, ?_, h2⟩
  have : (ps.toList.map fun p => (p.1, ρ p.2)).toArray = ps.map fun (i, x) => (i, ρ x) := by apply Array.ext'; simp
  rw [this] at h1
  simp only [execOp, ho]
  rw [Sem.run_bind, h1]
  rfl
theorem oBuildSlice_ok {t : TypeId} {n : Nat} {ps : Array (Nat × Operand)} (ho : o.op = .buildSlice t n ps) (H : oBuildSlice t n ps st P id s K = some out) : OK B P o id s K out := by
  have H0 : buildSliceK st P id t n ps.toList s K = some out := H
  have hops : ∀ p ∈ ps.toList, ∃ a, s.op p.2 = some a := by
    unfold buildSliceK at H0
    split at H0
    · split at H0
      · exact fillR_ops H0
      · cases H0
    · cases H0
  obtain ⟨v, U, rd, wr, hK, hd⟩ := buildSliceK_good (B := B) H0
  refine OK.of_does hK (fun ρ w m R Rf => Fa (PartR s w m R Rf) ps.toList (ps.toList.map fun p => (p.1, ρ p.2))) (fun ρ => Instr.buildSlice t n (ps.map fun (i, x) => (i, ρ x))) (fun ρ => by simp only [execOp, ho]) (fun ρ => ?_) fun w m R Rf ρ he => parts_fa he hops (fun p hp => by simp only [ho, Op.operands]; exact List.mem_map_of_mem (f := (·.2)) hp)
  have : (ps.toList.map fun p => (p.1, ρ p.2)).toArray = ps.map fun (i, x) => (i, ρ x) := by apply Array.ext'; simp
  rw [← this]
  exact hd _

theorem boundOf_ok {x : Option Operand} {b : Option Int} (hb : boundOf s x = some b) {ρ : Operand → Value} (he : EnvR o s w m R Rf ρ) (hin : ∀ y, x = some y → y ∈ o.op.operands.toList) : BoundR b (x.map ρ) := by
  unfold boundOf at hb
  split at hb
  · cases hb; trivial
  · rename_i x
    split at hb
    · rename_i k n hn
      cases hb
      exact ⟨_, (he x (hin x rfl) _ hn).v_inv⟩
    · cases hb

theorem oMakeMap_ok {t : TypeId} (ho : o.op = .makeMap t none) (H : oMakeMap st P id s K = some out) : OK B P o id s K out := by
  have H0 : putH st s id (.map true [] 0) (fun s => K (.c (.mp id)) s [] []) = some out := H
  rw [putH_eq] at H0
  refine ⟨.c (.mp id), [(id, some (.map true [] 0))], [], [], H0, by simp, fun w m R Rf hD ρ he hag hp hm I => ?_⟩
  have M := More.push w (.map #[] 0)
  have hat : (w.heap.push (Obj.map #[] 0))[w.heap.size]? = some (.map #[] 0) := Array.getElem?_push_size
  refine ⟨.value (.map (some w.heap.size)), .map (some w.heap.size), { w with heap := w.heap.push (.map #[] 0) }, ?_, .inl rfl, updM m id (.map w.heap.size), R, Rf, ?_, .c (.mp (updM_same _ _ _)), Ext.new I M hm, fun i hi => updM_ne m _ hi⟩
  · simp only [execOp, ho, Option.map_none, Instr.makeMap]
    rfl
  · exact I.new M hp hm (l := .map w.heap.size) rfl (Nat.le_refl _) (by simp) ⟨w.heap.size, #[], updM_same _ _ _, hat, .nil⟩
end Go.AM

namespace Go.AM
open Go.RowKit

variable {B : Base} {w w' : World} {m : Lm} {R Rf : Bs} {h : Tr Buf} {P : Program} {β : Type} {st : Bool} {id : Nat} {s : S} {K : KT β} {out : β} {o : Oper}

theorem sliceK_notArr {t : TypeId} {x : AV} {lo hi : Option Int} (H : sliceK P t x lo hi s K = some out) : ∃ d, P.underlying t = some d ∧ ∀ n e, d ≠ .array n e := by
  unfold sliceK at H
  split at H
  · rename_i hu; exact ⟨_, hu, fun _ _ h => by cases h⟩
  · rename_i hu; exact ⟨_, hu, fun _ _ h => by cases h⟩
  · cases H

theorem oSlice_ok {t : TypeId} {x : Operand} {lo hi : Option Operand} (ho : o.op = .slice t x lo hi none) (H : oSlice t x lo hi st P id s K = some out) : OK B P o id s K out := by
  unfold oSlice at H
  split at H
  · rename_i v l hh hv hl hhi
    obtain ⟨d, hu, hna⟩ := sliceK_notArr H
    obtain ⟨r, rd, hK, hd⟩ := sliceK_good (B := B) (id := id) H
    refine OK.of_does (U := []) hK (fun ρ w m R Rf => VR w m R Rf v (ρ x) ∧ BoundR l (lo.map ρ) ∧ BoundR hh (hi.map ρ)) (fun ρ => Instr.sliceAt t (ρ x) (lo.map ρ) (hi.map ρ) none) (fun ρ => by simp only [execOp, ho, Option.map_none])
      (fun ρ => ⟨by simp, fun w m R Rf hD hx hag hp hm I => ?_⟩) fun w m R Rf ρ he => ⟨he x (by simp [ho, Op.operands, Call.operands]) _ hv, boundOf_ok hl he (fun y hy => by simp [ho, Op.operands, hy]), boundOf_ok hhi he (fun y hy => by simp [ho, Op.operands, hy])⟩
    obtain ⟨val, w', h1, h2⟩ := (hd (ρ x) (lo.map ρ) (hi.map ρ) hx.2.1 hx.2.2).2 w m R Rf hD hx.1 hag hp hm I
    refine ⟨val, w', ?_, h2⟩
    simp only [Instr.sliceAt, Sem.run_bind, run_under hu, Result.andThen_ok]
    cases d <;> first | exact h1 | (exact absurd rfl (hna _ _))
  · cases H

theorem opsOf_fa {ρ : Operand → Value} (he : EnvR o s w m R Rf ρ) : ∀ {l : List Operand} {vs : List AV}, opsOf s l = some vs → (∀ x ∈ l, x ∈ o.op.operands.toList) → Fa (VR w m R Rf) vs (l.map ρ)
  | [], vs, h, _ => by cases h; exact .nil
  | x :: r, vs, h, hin => by
    unfold opsOf at h
    split at h
    · rename_i v l hv hl
      cases h
      exact .cons (he x (hin x (by simp)) v hv) (opsOf_fa he hl fun y hy => hin y (by simp [hy]))
    · cases h

theorem capsOf_spec : ∀ {vs : List AV} {cs : List AC}, capsOf vs = some cs → vs = cs.map .c
  | [], cs, h => by cases h; rfl
  | .c x :: r, cs, h => by
    unfold capsOf at h
    split at h
    · rename_i l hl
      cases h
      simp [capsOf_spec hl]
    · cases h
  | .agg _ :: r, cs, h => by cases h
  | .tup _ :: r, cs, h => by cases h

theorem oFunc_ok {f : FuncId} {first caps : Array Operand} (ho : o.op = .makeFunc (.func f) first caps) (H : oFunc f first caps st P id s K = some out) : OK B P o id s K out := by
  unfold oFunc at H
  split at H
  · rename_i vs hfst hvs
    split at H
    · rename_i cs hcs
      refine OK.of_pure H (fun ρ => execOp ρ o) (fun _ => rfl) fun w m R Rf ρ he => ?_
      refine ⟨.func (.func f) #[] (caps.map ρ), ?_, .c ?_⟩
      · have : first = #[] := Array.ext' hfst
        have h0 : (#[] : Array Operand).map ρ = #[] := by simp
        simp only [execOp, ho, Instr.makeFunc, this, h0]
        rfl
      · have hf := opsOf_fa he hvs (fun x hx => by simp only [ho, Op.operands, Array.toList_append]; exact List.mem_append_right _ hx)
        rw [capsOf_spec hcs] at hf
        have hl := hf.length
        refine .fn _ (by simpa using hl) fun k x u hx hu => ?_
        obtain ⟨b, hb, hr⟩ := hf.get k (.c x) (by simp [hx])
        have : (caps.map ρ)[k]? = some b := by
          rw [List.getElem?_map] at hb
          simpa using hb
        rw [this] at hu; cases hu
        exact hr.c_inv
    · cases H
  · cases H
end Go.AM

namespace Go.AM
open Go.RowKit

variable {B : Base} {w w' : World} {m : Lm} {R Rf : Bs} {h : Tr Buf} {P : Program} {β : Type} {st : Bool} {id : Nat} {s : S} {K : KT β} {out : β} {o : Oper}

theorem arr_of {α : Type} {a : Array α} {l : List α} (h : a.toList = l) : a = l.toArray := by rw [← h]

theorem opsOf_one {l : List Operand} {x : AV} (h : opsOf s l = some [x]) : ∃ a, l = [a] ∧ s.op a = some x := by
  cases l with
  | nil => cases h
  | cons a r =>
    unfold opsOf at h
    split at h
    · rename_i v l hv hl
      cases h
      cases r with
      | nil => exact ⟨a, rfl, hv⟩
      | cons b r =>
        unfold opsOf at hl
        split at hl <;> cases hl
    · cases h
theorem opsOf_two {l : List Operand} {x y : AV} (h : opsOf s l = some [x, y]) : ∃ a b, l = [a, b] ∧ s.op a = some x ∧ s.op b = some y := by
  cases l with
  | nil => cases h
  | cons a r =>
    unfold opsOf at h
    split at h
    · rename_i v l hv hl
      cases h
      obtain ⟨b, rfl, hb⟩ := opsOf_one hl
      exact ⟨a, b, rfl, hv, hb⟩
    · cases h

theorem execOp_builtin {ρ : Operand → Value} {c : Call} {b : Builtin} (ho : o.op = .call c) (hc : c.callee = .builtin b) :
    execOp ρ o = builtin b c.argTypes o.type (c.args.map fun | .const _ => true | _ => false) (c.args.map ρ) := by
  simp only [execOp, ho, resolve, hc]
  rfl

theorem oBuiltin_ok {c : Call} {b : Builtin} (ho : o.op = .call c) (hc : c.callee = .builtin b) (H : oBuiltin b c.args c.argTypes st P id s K = some out) : OK B P o id s K out := by
  unfold oBuiltin at H
  split at H
  · rename_i xs hxs
    generalize hts : c.argTypes.toList = ts at H
    have hT := arr_of hts
    unfold builtinK at H
    split at H
    · rename_i t x
      obtain ⟨a, hl, ha⟩ := opsOf_one hxs
      have hA := arr_of hl
      obtain ⟨v, rd, hK, hd⟩ := lenK_good (B := B) (id := id) H
      refine OK.of_does (U := []) hK (fun ρ w m R Rf => VR w m R Rf x (ρ a)) (fun ρ => Builtin.len_ #[t] o.type #[ρ a]) (fun ρ => ?_) (fun ρ => hd o.type (ρ a)) fun w m R Rf ρ he => he a (by simp [ho, Op.operands, Call.operands, hc, hl]) _ ha
      rw [execOp_builtin ho hc, hT, hA]; simp [builtin]
    · rename_i t u x y
      obtain ⟨a, b, hl, ha, hb⟩ := opsOf_two hxs
      have hA := arr_of hl
      obtain ⟨v, U, rd, wr, hK, hd⟩ := appendK_good (B := B) (id := id) H
      refine OK.of_does hK (fun ρ w m R Rf => VR w m R Rf x (ρ a) ∧ VR w m R Rf y (ρ b)) (fun ρ => Builtin.append_ #[t, u] o.type #[ρ a, ρ b]) (fun ρ => ?_) (fun ρ => hd o.type (ρ a) (ρ b)) fun w m R Rf ρ he => ⟨he a (by simp [ho, Op.operands, Call.operands, hc, hl]) _ ha, he b (by simp [ho, Op.operands, Call.operands, hc, hl]) _ hb⟩
      rw [execOp_builtin ho hc, hT, hA]; simp [builtin]
    · rename_i t u x y
      obtain ⟨a, b, hl, ha, hb⟩ := opsOf_two hxs
      have hA := arr_of hl
      obtain ⟨v, U, rd, wr, hK, hd⟩ := copyK_good (B := B) (id := id) H
      refine OK.of_does hK (fun ρ w m R Rf => VR w m R Rf x (ρ a) ∧ VR w m R Rf y (ρ b)) (fun ρ => Builtin.copy_ #[t, u] o.type #[ρ a, ρ b]) (fun ρ => ?_) (fun ρ => hd o.type (ρ a) (ρ b)) fun w m R Rf ρ he => ⟨he a (by simp [ho, Op.operands, Call.operands, hc, hl]) _ ha, he b (by simp [ho, Op.operands, Call.operands, hc, hl]) _ hb⟩
      rw [execOp_builtin ho hc, hT, hA]; simp [builtin]
    · rename_i t x
      obtain ⟨a, hl, ha⟩ := opsOf_one hxs
      have hA := arr_of hl
      obtain ⟨v, U, rd, wr, hK, hd⟩ := clearK_good (B := B) (id := id) H
      refine OK.of_does hK (fun ρ w m R Rf => VR w m R Rf x (ρ a)) (fun ρ => Builtin.clear_ #[t] o.type #[ρ a]) (fun ρ => ?_) (fun ρ => hd o.type (ρ a)) fun w m R Rf ρ he => he a (by simp [ho, Op.operands, Call.operands, hc, hl]) _ ha
      rw [execOp_builtin ho hc, hT, hA]; simp [builtin]
    · obtain ⟨r, hK, hd⟩ := minMaxK_good (P := P) H
      refine OK.of_pure hK (fun ρ => execOp ρ o) (fun _ => rfl) fun w m R Rf ρ he => ?_
      obtain ⟨v0, rest, hl, val, h1, h2⟩ := hd w m R Rf _ (opsOf_fa he hxs (fun x hx => by simp only [ho, Op.operands, Call.operands, hc, Array.toList_append]; exact List.mem_append_right _ hx))
      refine ⟨val, ?_, h2⟩
      simp only [if_true] at h1
      rw [execOp_builtin ho hc]
      simp only [builtin, Builtin.max_, Array.toList_map, hl, Sem.run_bind, h1, Result.andThen_ok, Sem.run_pure]
    · obtain ⟨r, hK, hd⟩ := minMaxK_good (P := P) H
      refine OK.of_pure hK (fun ρ => execOp ρ o) (fun _ => rfl) fun w m R Rf ρ he => ?_
      obtain ⟨v0, rest, hl, val, h1, h2⟩ := hd w m R Rf _ (opsOf_fa he hxs (fun x hx => by simp only [ho, Op.operands, Call.operands, hc, Array.toList_append]; exact List.mem_append_right _ hx))
      refine ⟨val, ?_, h2⟩
      simp only [Bool.false_eq_true, if_false] at h1
      rw [execOp_builtin ho hc]
      simp only [builtin, Builtin.min_, Array.toList_map, hl, Sem.run_bind, h1, Result.andThen_ok, Sem.run_pure]
    · cases H
  · cases H

/-- Every op that is no call of a function. -/
theorem opK_ok (H : opK st P id o s K = some out) : OK B P o id s K out := by
  unfold opK at H
  generalize ho : o.op = op at H
  unfold opF at H
  split at H
  · exact oMove_ok (fun ρ => by simp only [execOp, ho]) (by simp [ho, Op.operands]) H
  · exact oMove_ok (fun ρ => by simp only [execOp, ho]) (by simp [ho, Op.operands]) H
  · exact oPick_ok ho H
  · exact oAlloc_ok ho H
  · exact oBox_ok ho H
  · exact oBuild_ok ho H
  · exact oBuildSlice_ok ho H
  · exact oLoad_ok ho H
  · exact oStore_ok ho H
  · exact oNilCheck_ok ho H
  · exact oBin_ok ho H
  · exact oUn_ok ho H
  · exact oConv_ok ho H
  · rename_i f first caps
    cases f with
    | func f => exact oFunc_ok (st := st) ho H
    | _ => cases H
  · rename_i t r
    cases r with
    | none => exact oMakeMap_ok (st := st) ho H
    | some _ => cases H
  · exact oMakeSlice_ok ho H
  · rename_i t x lo hi mx
    cases mx with
    | none => exact oSlice_ok (st := st) ho H
    | some _ => cases H
  · exact oFieldAddr_ok ho H
  · exact oField_ok ho H
  · exact oIndexAddr_ok ho H
  · exact oIndex_ok ho H
  · exact oLookup_ok ho H
  · exact oMapUpdate_ok ho H
  · exact oMapEntry_ok ho H
  · exact oEntryStore_ok ho H
  · exact oExtract_ok ho H
  · rename_i c
    generalize hc : c.callee = cal at H
    cases cal with
    | builtin b => exact oBuiltin_ok ho hc H
    | _ => cases H
  · cases H
end Go.AM

namespace Go.AM
open Go.RowKit

variable {B : Base} {w w' : World} {m : Lm} {R Rf : Bs} {h : Tr Buf} {P : Program} {β : Type}

/-! ### Other numbers -/
/-- m' has at the new number what m has at the old one. -/
def Ren (ρ : Nat → Option Nat) (m m' : Lm) : Prop := ∀ i j l, ρ i = some j → m i = some l → m' j = some l

theorem renL_get {ρ : Nat → Option Nat} : ∀ {l l' : List AC}, renL ρ l = some l' → l'.length = l.length ∧ ∀ (k : Nat) (y : AC), l'[k]? = some y → ∃ x, l[k]? = some x ∧ renC ρ x = some y
  | [], l', h => by
    unfold renL at h; cases h
    exact ⟨rfl, fun k y hy => by simp at hy⟩
  | c :: r, l', h => by
    unfold renL at h
    split at h
    · rename_i d l hd hl
      cases h
      obtain ⟨h1, h2⟩ := renL_get hl
      refine ⟨by simp [h1], fun k y hy => ?_⟩
      cases k with
      | zero => simp at hy; subst hy; exact ⟨c, rfl, hd⟩
      | succ k => simp at hy; obtain ⟨x, hx, hr⟩ := h2 k y hy; exact ⟨x, by simpa using hx, hr⟩
    · cases h

theorem CR.ren {ρ : Nat → Option Nat} {x : AC} {v : Value} (H : CR w m R Rf x v) : ∀ {m' : Lm} {y : AC}, Ren ρ m m' → renC ρ x = some y → CR w m' R Rf y v := by
  induction H with
  | v hs => intro m' y hR hy; unfold renC at hy; cases hy; exact .v hs
  | ro0 => intro m' y hR hy; unfold renC at hy; cases hy; exact .ro0
  | ro vs hb hc hs h1 h2 ih => intro m' y hR hy; unfold renC at hy; cases hy; exact .ro vs hb hc hs h1 h2
  | rp vs hb h1 h2 ih => intro m' y hR hy; unfold renC at hy; cases hy; exact .rp vs hb h1 h2
  | ref0 hm => intro m' y hR hy; unfold renC at hy; split at hy <;> cases hy; exact .ref0 (hR _ _ _ ‹_› hm)
  | ref hm hn hs hc => intro m' y hR hy; unfold renC at hy; split at hy <;> cases hy; exact .ref (hR _ _ _ ‹_› hm) hn hs hc
  | sub0 hm => intro m' y hR hy; unfold renC at hy; split at hy <;> cases hy; exact .sub0 (hR _ _ _ ‹_› hm)
  | subE hm hn hs ho => intro m' y hR hy; unfold renC at hy; split at hy <;> cases hy; exact .subE (hR _ _ _ ‹_› hm) hn hs ho
  | sub hm hn hl hs hc => intro m' y hR hy; unfold renC at hy; split at hy <;> cases hy; exact .sub (hR _ _ _ ‹_› hm) hn hl hs hc
  | ptrR hm hi => intro m' y hR hy; unfold renC at hy; split at hy <;> cases hy; exact .ptrR (hR _ _ _ ‹_› hm) hi
  | ptrO hm => intro m' y hR hy; unfold renC at hy; split at hy <;> cases hy; exact .ptrO (hR _ _ _ ‹_› hm)
  | mp hm => intro m' y hR hy; unfold renC at hy; split at hy <;> cases hy; exact .mp (hR _ _ _ ‹_› hm)
  | fn vals hl hh ih =>
    intro m' y hR hy
    unfold renC at hy
    split at hy
    · rename_i cs hcs
      cases hy
      obtain ⟨h1, h2⟩ := renL_get hcs
      refine .fn vals (h1.trans hl) fun k x u hx hu => ?_
      obtain ⟨c, hc, hr⟩ := h2 k x hx
      exact ih k c u hc hu hR hr
    · cases hy

theorem Fa.ren {ρ : Nat → Option Nat} {m' : Lm} (hR : Ren ρ m m') {xs ys : List AC} {vs : List Value} (hf : Fa (CR w m R Rf) xs vs) (hy : renL ρ xs = some ys) : Fa (CR w m' R Rf) ys vs := by
  obtain ⟨h1, h2⟩ := renL_get hy
  refine Fa.of_get (h1.trans hf.length) fun k a b ha hb => ?_
  obtain ⟨x, hx, hr⟩ := h2 k a ha
  obtain ⟨b', hb', hr'⟩ := hf.get k x hx
  rw [hb] at hb'; cases hb'
  exact hr'.ren hR hr

theorem renVs_get {ρ : Nat → Option Nat} : ∀ {l l' : List AV}, renVs ρ l = some l' → l'.length = l.length ∧ ∀ (k : Nat) (y : AV), l'[k]? = some y → ∃ x, l[k]? = some x ∧ renV ρ x = some y
  | [], l', h => by
    unfold renVs at h; cases h
    exact ⟨rfl, fun k y hy => by simp at hy⟩
  | c :: r, l', h => by
    unfold renVs at h
    split at h
    · rename_i d l hd hl
      cases h
      obtain ⟨h1, h2⟩ := renVs_get hl
      refine ⟨by simp [h1], fun k y hy => ?_⟩
      cases k with
      | zero => simp at hy; subst hy; exact ⟨c, rfl, hd⟩
      | succ k => simp at hy; obtain ⟨x, hx, hr⟩ := h2 k y hy; exact ⟨x, by simpa using hx, hr⟩
    · cases h

theorem VR.ren {ρ : Nat → Option Nat} {x : AV} {v : Value} (H : VR w m R Rf x v) : ∀ {m' : Lm} {y : AV}, Ren ρ m m' → renV ρ x = some y → VR w m' R Rf y v := by
  induction H with
  | c hr =>
    intro m' y hR hy
    unfold renV at hy
    split at hy
    · cases hy; exact .c (hr.ren hR ‹_›)
    · cases hy
  | agg arr hf =>
    intro m' y hR hy
    unfold renV at hy
    split at hy
    · cases hy; exact .agg arr (hf.ren hR ‹_›)
    · cases hy
  | tup arr hl hh ih =>
    intro m' y hR hy
    unfold renV at hy
    split at hy
    · rename_i us hus
      cases hy
      obtain ⟨h1, h2⟩ := renVs_get hus
      refine .tup arr (h1.trans hl) fun k x u hx hu => ?_
      obtain ⟨c, hc, hr⟩ := h2 k x hx
      exact ih k c u hc hu hR hr
    · cases hy

/-- A buffer under another number. -/
theorem BR.ren {ρ : Nat → Option Nat} {m' : Lm} {i j : Nat} {x y : Buf} (hR : Ren ρ m m') (hij : ∀ l, m i = some l → m' j = some l) (hy : renB ρ x = some y) (H : BR w m R Rf i x) : BR w m' R Rf j y := by
  cases x with
  | gone => cases (show some Buf.gone = some y from hy); trivial
  | obj t cs =>
    have hy' : (match renL ρ cs with | some ds => some (Buf.obj t ds) | none => none) = some y := hy
    clear hy
    split at hy'
    · rename_i ds hds
      cases hy'
      obtain ⟨b, base, N, h1, h2, h3, h4⟩ := H
      obtain ⟨g1, g2⟩ := renL_get hds
      refine ⟨b, base, N, hij _ h1, h2, by rw [g1]; exact h3, fun k z hz => ?_⟩
      obtain ⟨c, hc, hr⟩ := g2 k z hz
      obtain ⟨u, hu, hcr⟩ := h4 k c hc
      exact ⟨u, hu, hcr.ren hR hr⟩
    · cases hy'
  | row cl sz es =>
    cases (show some (Buf.row cl sz es) = some y from hy)
    rcases H with ⟨h1, h2⟩ | ⟨b, base, N, h1, h2⟩
    · exact .inl ⟨h1, hij _ h2⟩
    · exact .inr ⟨b, base, N, hij _ h1, h2⟩
  | map cl es clock =>
    cases (show some (Buf.map cl es clock) = some y from hy)
    obtain ⟨b, ents, h1, h2⟩ := H
    exact ⟨b, ents, hij _ h1, h2⟩

/-! ### A nil slice as an empty row -/
theorem normCs_nil {sz : Nat} {ts : List CT} {r : List AC} {nx : Nat} {hD : Tr Buf} : normCs (.sl sz :: ts) (.v (.slice none 0 0) :: r) nx hD =
    (.ref nx :: (normCs ts r (nx + 1) (hD.set nx (.row true sz []))).1, (normCs ts r (nx + 1) (hD.set nx (.row true sz []))).2.1, (normCs ts r (nx + 1) (hD.set nx (.row true sz []))).2.2) := rfl
theorem normCs_other {t : CT} {c : AC} {ts : List CT} {r : List AC} {nx : Nat} {hD : Tr Buf} (hc : ¬ ∃ sz, t = .sl sz ∧ c = .v (.slice none 0 0)) :
    normCs (t :: ts) (c :: r) nx hD = (c :: (normCs ts r nx hD).1, (normCs ts r nx hD).2.1, (normCs ts r nx hD).2.2) := by
  conv => lhs; unfold normCs
  split
  · rename_i h1 h2
    cases h1; cases h2
    exact absurd ⟨_, rfl, rfl⟩ hc
  · rename_i h1 h2
    cases h1; cases h2
    rfl
  · rename_i h1 h2
    exact absurd rfl (h2 _ _ _ _ rfl)

theorem normCs_spec : ∀ {ts : List CT} {cs : List AC} {nx : Nat} {hD : Tr Buf}, ∀ {cs' : List AC} {n : Nat} {h' : Tr Buf}, normCs ts cs nx hD = (cs', n, h') →
    ∃ U, h' = applyU U hD ∧ (∀ k ∈ U.map (·.1), nx ≤ k ∧ k < n) ∧ nx ≤ n ∧
      ∀ {B : Base} {w : World} {m : Lm} {R Rf : Bs} {hD' : Tr Buf}, B.p ≤ nx → (∀ i, nx ≤ i → i < n → m i = none) → Inv B w m R Rf hD' →
        ∃ m', Inv B w m' R Rf (applyU U hD') ∧ Ext w w m m' R R Rf Rf ∧ (∀ i, ¬ (nx ≤ i ∧ i < n) → m' i = m i) ∧ ∀ (us : List Value), Fa (CR w m R Rf) cs us → Fa (CR w m' R Rf) cs' us := by
  intro ts cs
  induction ts generalizing cs with
  | nil =>
    intro nx hD cs' n h' H
    have : (cs, nx, hD) = (cs', n, h') := by rw [← H]; cases cs <;> rfl
    cases this
    exact ⟨[], rfl, by simp, Nat.le_refl _, fun hp hn I => ⟨_, I, Ext.refl _ _ _ _ I.sub, fun _ _ => rfl, fun _ h => h⟩⟩
  | cons t ts ih =>
    intro nx hD cs' n h' H
    cases cs with
    | nil =>
      have : (([] : List AC), nx, hD) = (cs', n, h') := by rw [← H]; cases t <;> rfl
      cases this
      exact ⟨[], rfl, by simp, Nat.le_refl _, fun hp hn I => ⟨_, I, Ext.refl _ _ _ _ I.sub, fun _ _ => rfl, fun _ h => h⟩⟩
    | cons c r =>
      have keep : normCs ts r nx hD = (cs'.tail, n, h') → cs' = c :: cs'.tail → ∃ U, h' = applyU U hD ∧ (∀ k ∈ U.map (·.1), nx ≤ k ∧ k < n) ∧ nx ≤ n ∧
          ∀ {B : Base} {w : World} {m : Lm} {R Rf : Bs} {hD' : Tr Buf}, B.p ≤ nx → (∀ i, nx ≤ i → i < n → m i = none) → Inv B w m R Rf hD' →
            ∃ m', Inv B w m' R Rf (applyU U hD') ∧ Ext w w m m' R R Rf Rf ∧ (∀ i, ¬ (nx ≤ i ∧ i < n) → m' i = m i) ∧ ∀ (us : List Value), Fa (CR w m R Rf) (c :: r) us → Fa (CR w m' R Rf) cs' us := by
        intro h1 h2
        obtain ⟨U, u1, u2, u3, u4⟩ := ih h1
        refine ⟨U, u1, u2, u3, fun hp hn I => ?_⟩
        obtain ⟨m', a, b, d, e⟩ := u4 hp hn I
        refine ⟨m', a, b, d, fun us hf => ?_⟩
        rw [h2]
        cases hf with
        | cons hc hr => exact .cons (hc.mono b) (e _ hr)
      by_cases hcc : ∃ sz, t = .sl sz ∧ c = .v (.slice none 0 0)
      · obtain ⟨sz, rfl, rfl⟩ := hcc
        rw [normCs_nil] at H
        generalize hq : normCs ts r (nx + 1) (hD.set nx (.row true sz [])) = q at H
        obtain ⟨cs2, n2, h2⟩ := q
        simp only [Prod.mk.injEq] at H
        obtain ⟨rfl, rfl, rfl⟩ := H
        obtain ⟨U, u1, u2, u3, u4⟩ := ih hq
        refine ⟨(nx, some (.row true sz [])) :: U, u1, ?_, by omega, fun {B w m R Rf hD'} hp hn I => ?_⟩
        · intro k hk
          rcases List.mem_cons.1 hk with hk | hk
          · have hk : k = nx := hk
            omega
          · have := u2 k hk; omega
        · have hmn := hn nx (Nat.le_refl _) (by omega)
          obtain ⟨I1, E1⟩ := I.name (m' := updM m nx .nil) (l := .nil) (x := .row true sz []) (.inl hp) (updM_same _ _ _) rfl (.inl hmn) (fun i hi => updM_ne m _ hi) (.inl ⟨rfl, updM_same _ _ _⟩)
          obtain ⟨m', a, b, d, e⟩ := u4 (B := B) (by omega) (fun i h1 h2 => by rw [updM_ne m _ (by omega)]; exact hn i (by omega) h2) I1
          refine ⟨m', a, E1.trans b, fun i hi => ?_, fun us hf => ?_⟩
          · rw [d i (by omega), updM_ne m _ (by omega)]
          · cases hf with
            | cons hc hr =>
              cases hc with
              | v _ => exact .cons ((CR.ref0 (updM_same m nx .nil)).mono b) (e _ (hr.mono fun _ _ hh => hh.mono E1))
      · rw [normCs_other hcc] at H
        generalize hq : normCs ts r nx hD = q at H
        obtain ⟨cs2, n2, h2⟩ := q
        simp only [Prod.mk.injEq] at H
        obtain ⟨rfl, rfl, rfl⟩ := H
        exact keep hq rfl
end Go.AM

namespace Go.AM
open Go.RowKit

variable {B : Base} {w w' : World} {m : Lm} {R Rf : Bs} {h : Tr Buf} {P : Program} {β : Type}

theorem applyU_agree : ∀ (U : List (Nat × Option Buf)) (h h' : Tr Buf) (i : Nat), h.get i = h'.get i → (applyU U h).get i = (applyU U h').get i
  | [], _, _, _, e => e
  | (j, some b) :: r, h, h', i, e => by
    simp only [applyU]
    refine applyU_agree r _ _ i ?_
    rw [Tr.get_set, Tr.get_set, e]
  | (j, none) :: r, h, h', i, e => by
    simp only [applyU]
    refine applyU_agree r _ _ i ?_
    rw [Tr.get_del, Tr.get_del, e]
theorem applyU_other : ∀ (U : List (Nat × Option Buf)) (h : Tr Buf) (i : Nat), i ∉ U.map (·.1) → (applyU U h).get i = h.get i
  | [], _, _, _ => rfl
  | (j, some b) :: r, h, i, hi => by
    simp only [List.map_cons, List.mem_cons, not_or] at hi
    simp only [applyU]
    rw [applyU_other r _ i hi.2, Tr.get_set, if_neg hi.1]
  | (j, none) :: r, h, i, hi => by
    simp only [List.map_cons, List.mem_cons, not_or] at hi
    simp only [applyU]
    rw [applyU_other r _ i hi.2, Tr.get_del, if_neg hi.1]

/-- New names for nil slices: what is related stays so. -/
def Names (nx n : Nat) (tou : List Nat) (h : Tr Buf) (U : List (Nat × Option Buf)) (Q : World → Lm → Lm → Bs → Bs → Prop) : Prop :=
  (∀ k ∈ U.map (·.1), (nx ≤ k ∧ k < n) ∨ k ∈ tou) ∧ nx ≤ n ∧
  ∀ (B : Base) (w : World) (m : Lm) (R Rf : Bs) (hD : Tr Buf), (∀ i ∈ tou, hD.get i = h.get i) → B.p ≤ nx → (∀ i, nx ≤ i → i < n → m i = none) → Inv B w m R Rf hD →
    ∃ m', Inv B w m' R Rf (applyU U hD) ∧ Ext w w m m' R R Rf Rf ∧ (∀ i, ¬ (nx ≤ i ∧ i < n) → m' i = m i) ∧ Q w m m' R Rf

theorem Names.refl (nx : Nat) (tou : List Nat) (h : Tr Buf) : Names nx nx tou h [] fun _ m m' _ _ => m' = m :=
  ⟨by simp, Nat.le_refl _, fun B w m R Rf hD _ _ _ I => ⟨m, I, Ext.refl _ _ _ _ I.sub, fun _ _ => rfl, rfl⟩⟩
theorem Names.trans {nx n n' : Nat} {t t' : List Nat} {h : Tr Buf} {U V : List (Nat × Option Buf)} {Q Q' Q'' : World → Lm → Lm → Bs → Bs → Prop} (H : Names nx n t h U Q) (H' : Names n n' t' (applyU U h) V Q')
    (hQ : ∀ w m m1 m2 R Rf, Q w m m1 R Rf → Q' w m1 m2 R Rf → Ext w w m m1 R R Rf Rf → Ext w w m1 m2 R R Rf Rf → Q'' w m m2 R Rf) : Names nx n' (t ++ t') h (U ++ V) Q'' := by
  obtain ⟨a1, a2, a3⟩ := H
  obtain ⟨b1, b2, b3⟩ := H'
  refine ⟨fun k hk => ?_, by omega, fun B w m R Rf hD hag hp hn I => ?_⟩
  · rw [List.map_append, List.mem_append] at hk
    rcases hk with hk | hk
    · rcases a1 k hk with h1 | h1
      · exact .inl (by omega)
      · exact .inr (by simp [h1])
    · rcases b1 k hk with h1 | h1
      · exact .inl (by omega)
      · exact .inr (by simp [h1])
  · obtain ⟨m1, c1, c2, c3, c4⟩ := a3 B w m R Rf hD (fun i hi => hag i (by simp [hi])) hp (fun i h1 h2 => hn i h1 (by omega)) I
    obtain ⟨m2, d1, d2, d3, d4⟩ := b3 B w m1 R Rf (applyU U hD) (fun i hi => applyU_agree U _ _ i (hag i (by simp [hi]))) (by omega) (fun i h1 h2 => by rw [c3 i (by omega)]; exact hn i (by omega) h2) c1
    refine ⟨m2, by rw [applyU_append]; exact d1, c2.trans d2, fun i hi => by rw [d3 i (by omega), c3 i (by omega)], hQ w m m1 m2 R Rf c4 d4 c2 d2⟩

theorem normCs_names {ts : List CT} {cs cs' : List AC} {nx n : Nat} {h h' : Tr Buf} (H : normCs ts cs nx h = (cs', n, h')) :
    ∃ U, h' = applyU U h ∧ Names nx n [] h U fun w m m' R Rf => ∀ us : List Value, Fa (CR w m R Rf) cs us → Fa (CR w m' R Rf) cs' us := by
  obtain ⟨U, u1, u2, u3, u4⟩ := normCs_spec H
  exact ⟨U, u1, fun k hk => .inl (u2 k hk), u3, fun B w m R Rf hD _ hp hn I => u4 hp hn I⟩

theorem normV_names {t : TypeId} {v v' : AV} {nx n : Nat} {h h' : Tr Buf} (H : normV P t v nx h = (v', n, h')) :
    ∃ U, h' = applyU U h ∧ Names nx n [] h U fun w m m' R Rf => ∀ u : Value, VR w m R Rf v u → VR w m' R Rf v' u := by
  cases v with
  | c x =>
    have H' : (match normCs (ctsOf P t) [x] nx h with | ([y], n, h') => (AV.c y, n, h') | _ => (AV.c x, nx, h)) = (v', n, h') := H
    clear H
    have H := H'
    clear H'
    generalize hq : normCs (ctsOf P t) [x] nx h = q at H
    obtain ⟨cs, n2, h2⟩ := q
    obtain ⟨U, u1, u2⟩ := normCs_names hq
    split at H
    · rename_i y n3 h3 he
      cases he; cases H
      refine ⟨U, u1, u2.1, u2.2.1, fun B w m R Rf hD a b c d => ?_⟩
      obtain ⟨m', e1, e2, e3, e4⟩ := u2.2.2 B w m R Rf hD a b c d
      refine ⟨m', e1, e2, e3, fun u hu => ?_⟩
      have := e4 [u] (.cons hu.c_inv .nil)
      cases this with
      | cons hr _ => exact .c hr
    · cases H
      refine ⟨[], rfl, (Names.refl nx [] h).1, (Names.refl nx [] h).2.1, fun B w m R Rf hD a b c d => ⟨m, d, Ext.refl _ _ _ _ d.sub, fun _ _ => rfl, fun _ h => h⟩⟩
  | agg cs =>
    have H' : (match normCs (ctsOf P t) cs nx h with | (ds, n, h') => (AV.agg ds, n, h')) = (v', n, h') := H
    clear H
    have H := H'
    clear H'
    generalize hq : normCs (ctsOf P t) cs nx h = q at H
    obtain ⟨ds, n2, h2⟩ := q
    obtain ⟨U, u1, u2⟩ := normCs_names hq
    cases H
    refine ⟨U, u1, u2.1, u2.2.1, fun B w m R Rf hD a b c d => ?_⟩
    obtain ⟨m', e1, e2, e3, e4⟩ := u2.2.2 B w m R Rf hD a b c d
    refine ⟨m', e1, e2, e3, fun u hu => ?_⟩
    obtain ⟨arr, rfl, hf⟩ := hu.agg_inv
    exact .agg arr (e4 _ hf)
  | tup vs =>
    cases (show ((AV.tup vs, nx, h) : AV × Nat × Tr Buf) = (v', n, h') from H)
    exact ⟨[], rfl, (Names.refl nx [] h).1, (Names.refl nx [] h).2.1, fun B w m R Rf hD a b c d => ⟨m, d, Ext.refl _ _ _ _ d.sub, fun _ _ => rfl, fun _ h => h⟩⟩
end Go.AM

namespace Go.AM
open Go.RowKit

variable {B : Base} {w w' : World} {m : Lm} {R Rf : Bs} {h : Tr Buf} {P : Program} {β : Type}

theorem Names.weak {nx n : Nat} {t t' : List Nat} {h : Tr Buf} {U : List (Nat × Option Buf)} {Q Q' : World → Lm → Lm → Bs → Bs → Prop} (H : Names nx n t h U Q) (ht : ∀ i ∈ t, i ∈ t')
    (hQ : ∀ w m m' R Rf, Q w m m' R Rf → Q' w m m' R Rf) : Names nx n t' h U Q' := by
  obtain ⟨a, b, c⟩ := H
  refine ⟨fun k hk => (a k hk).imp id (ht k), b, fun B w m R Rf hD hag hp hn I => ?_⟩
  obtain ⟨m', c1, c2, c3, c4⟩ := c B w m R Rf hD (fun i hi => hag i (ht i hi)) hp hn I
  exact ⟨m', c1, c2, c3, hQ _ _ _ _ _ c4⟩

theorem normVs_names : ∀ {ts : List TypeId} {vs vs' : List AV} {nx n : Nat} {h h' : Tr Buf}, normVs P ts vs nx h = (vs', n, h') →
    ∃ U, h' = applyU U h ∧ Names nx n [] h U fun w m m' R Rf => ∀ us : List Value, Fa (VR w m R Rf) vs us → Fa (VR w m' R Rf) vs' us := by
  intro ts
  induction ts with
  | nil =>
    intro vs vs' nx n h h' H
    have : (vs, nx, h) = (vs', n, h') := by rw [← H]; cases vs <;> rfl
    cases this
    exact ⟨[], rfl, (Names.refl nx [] h).weak (fun _ h => h) fun w m m' R Rf e us hf => by rw [e]; exact hf⟩
  | cons t ts ih =>
    intro vs vs' nx n h h' H
    cases vs with
    | nil =>
      have : (([] : List AV), nx, h) = (vs', n, h') := by rw [← H]; rfl
      cases this
      exact ⟨[], rfl, (Names.refl nx [] h).weak (fun _ h => h) fun w m m' R Rf e us hf => by rw [e]; exact hf⟩
    | cons v r =>
      have H' : (match normV P t v nx h with | (u, n, h') => match normVs P ts r n h' with | (us, n', h'') => (u :: us, n', h'')) = (vs', n, h') := H
      clear H
      generalize hq : normV P t v nx h = q at H'
      obtain ⟨u, n1, h1⟩ := q
      generalize hq2 : normVs P ts r n1 h1 = q2 at H'
      obtain ⟨us', n2, h2⟩ := q2
      simp only [hq2, Prod.mk.injEq] at H'
      obtain ⟨rfl, rfl, rfl⟩ := H'
      obtain ⟨U, rfl, u2⟩ := normV_names hq
      obtain ⟨V, rfl, v2⟩ := ih hq2
      refine ⟨U ++ V, by rw [applyU_append], (u2.trans v2 fun w m m1 m2 R Rf q1 q2 E1 E2 us hf => ?_).weak (by simp) fun _ _ _ _ _ h => h⟩
      cases hf with
      | cons hv hr => exact .cons ((q1 _ hv).mono E2) (q2 _ (hr.mono fun _ _ hh => hh.mono E1))

theorem normM_names : ∀ {vs vs' : List AV} {ms : List Bool} {ts : List TypeId} {nx n : Nat} {h h' : Tr Buf}, normM P vs ms ts nx h = (vs', n, h') →
    ∃ U, h' = applyU U h ∧ Names nx n [] h U fun w m m' R Rf => ∀ us : List Value, Fa (VR w m R Rf) vs us → Fa (VR w m' R Rf) vs' us := by
  intro vs
  induction vs with
  | nil =>
    intro vs' ms ts nx n h h' H
    have : (([] : List AV), nx, h) = (vs', n, h') := H
    cases this
    exact ⟨[], rfl, (Names.refl nx [] h).weak (fun _ h => h) fun w m m' R Rf e us hf => by rw [e]; exact hf⟩
  | cons v r ih =>
    intro vs' ms ts nx n h h' H
    have H' : (match hdT ms ts with
      | some t => match normV P t v nx h with
        | (u, n, h') => match normM P r ms.tail ts.tail n h' with | (us, n', h'') => (u :: us, n', h'')
      | none => match normM P r ms.tail ts.tail nx h with | (us, n', h'') => (v :: us, n', h'')) = (vs', n, h') := H
    clear H
    split at H'
    · rename_i t _
      generalize hq : normV P t v nx h = q at H'
      obtain ⟨u, n1, h1⟩ := q
      generalize hq2 : normM P r ms.tail ts.tail n1 h1 = q2 at H'
      obtain ⟨us', n2, h2⟩ := q2
      simp only [hq2, Prod.mk.injEq] at H'
      obtain ⟨rfl, rfl, rfl⟩ := H'
      obtain ⟨U, rfl, u2⟩ := normV_names hq
      obtain ⟨V, rfl, v2⟩ := ih hq2
      refine ⟨U ++ V, by rw [applyU_append], (u2.trans v2 fun w m m1 m2 R Rf q1 q2 E1 E2 us hf => ?_).weak (by simp) fun _ _ _ _ _ h => h⟩
      cases hf with
      | cons hv hr => exact .cons ((q1 _ hv).mono E2) (q2 _ (hr.mono fun _ _ hh => hh.mono E1))
    · generalize hq2 : normM P r ms.tail ts.tail nx h = q2 at H'
      obtain ⟨us', n2, h2⟩ := q2
      simp only [Prod.mk.injEq] at H'
      obtain ⟨rfl, rfl, rfl⟩ := H'
      obtain ⟨V, rfl, v2⟩ := ih hq2
      refine ⟨V, rfl, (((Names.refl nx [] h).trans (U := []) (h := h) v2 (Q'' := fun w m m' R Rf => ∀ us : List Value, Fa (VR w m R Rf) (v :: r) us → Fa (VR w m' R Rf) (v :: us') us) fun w m m1 m2 R Rf q1 q2 E1 E2 us hf => ?_).weak (by simp) fun _ _ _ _ _ h => h)⟩
      cases hf with
      | cons hv hr => exact .cons ((hv.mono E1).mono E2) (q2 _ (hr.mono fun _ _ hh => hh.mono E1))

/-- The cells of objects. -/
theorem normH_names : ∀ {ids : List Nat} {nx n : Nat} {h h' : Tr Buf}, normH P ids nx h = (n, h') → ∃ U, h' = applyU U h ∧ Names nx n ids h U fun _ _ _ _ _ => True := by
  intro ids
  induction ids with
  | nil =>
    intro nx n h h' H
    have : (nx, h) = (n, h') := H
    cases this
    exact ⟨[], rfl, (Names.refl nx [] h).weak (fun _ h => h) fun _ _ _ _ _ _ => trivial⟩
  | cons id r ih =>
    intro nx n h h' H
    have H' : (match h.get id with
      | some (.obj t cs) => match normCs (ctsOf P t) cs nx h with | (cs', n, h') => normH P r n (h'.set id (.obj t cs'))
      | _ => normH P r nx h) = (n, h') := H
    clear H
    split at H'
    · rename_i t cs hg
      generalize hq : normCs (ctsOf P t) cs nx h = q at H'
      obtain ⟨cs', n1, h1⟩ := q
      obtain ⟨U, rfl, u2⟩ := normCs_names hq
      have hset : (applyU U h).set id (.obj t cs') = applyU (U ++ [(id, some (.obj t cs'))]) h := by rw [applyU_append]; rfl
      have H2 : normH P r n1 (applyU (U ++ [(id, some (.obj t cs'))]) h) = (n, h') := by rw [← hset]; exact H'
      obtain ⟨V, rfl, v2⟩ := ih H2
      have N1 : Names nx n1 [id] h (U ++ [(id, some (.obj t cs'))]) fun _ _ _ _ _ => True := by
        obtain ⟨a, b, c⟩ := u2
        refine ⟨fun k hk => ?_, b, fun B w m R Rf hD hag hp hn I => ?_⟩
        · rw [List.map_append, List.mem_append] at hk
          rcases hk with hk | hk
          · rcases a k hk with h1 | h1
            · exact .inl h1
            · simp at h1
          · exact .inr (by simpa using hk)
        · have hgD : hD.get id = some (.obj t cs) := (hag id (by simp)).trans hg
          obtain ⟨m1, c1, c2, c3, c4⟩ := c B w m R Rf hD (by simp) hp hn I
          obtain ⟨b0, base, N, hm, hW, hN, hCs⟩ := I.br id _ hgD
          have hnot : id ∉ U.map (·.1) := fun hk => by
            rcases a id hk with h1 | h1
            · rw [hn id h1.1 h1.2] at hm; cases hm
            · simp at h1
          have hg1 : (applyU U hD).get id = some (.obj t cs) := by rw [applyU_other U hD id hnot, hgD]
          obtain ⟨us, hf, hus⟩ := hCs.vals
          have hf' := c4 us hf
          have hlen : cs'.length = cs.length := hf'.length.trans hf.length.symm
          obtain ⟨I2, E2⟩ := c1.write (x := .obj t cs') (id := id) (b := b0) (l := .obj b0 base) ⟨_, hg1, by simp⟩ (c2.m _ _ hm) rfl (But.refl b0 w) (fun _ => ⟨b0, base, N, c2.m _ _ hm, hW, by rw [hlen]; exact hN, CsAt.of_vals hf' hus⟩)
          exact ⟨m1, by rw [applyU_append]; exact I2, c2, c3, trivial⟩
      refine ⟨(U ++ [(id, some (.obj t cs'))]) ++ V, by rw [applyU_append _ V], (N1.trans v2 fun _ _ _ _ _ _ _ _ _ _ => trivial).weak (by simp) fun _ _ _ _ _ h => h⟩
    · obtain ⟨V, rfl, v2⟩ := ih H'
      exact ⟨V, rfl, v2.weak (fun i hi => by simp [hi]) fun _ _ _ _ _ h => h⟩

/-- What lives at a jump. -/
theorem liveE_names {e : Tr AV} : ∀ {l : List (Nat × Option Nat)} {nx n : Nat} {h h' : Tr Buf} {E : List (Nat × AV)}, liveE e l nx h = some (E, n, h') →
    ∃ U, h' = applyU U h ∧ Names nx n [] h U fun w m m' R Rf => ∀ ρ : Nat → Value, (∀ t v, e.get t = some v → VR w m R Rf v (ρ t)) → ∀ p ∈ E, VR w m' R Rf p.2 (ρ p.1) := by
  intro l
  induction l with
  | nil =>
    intro nx n h h' E H
    cases H
    exact ⟨[], rfl, (Names.refl nx [] h).weak (fun _ h => h) fun w m m' R Rf e ρ hρ p hp => by simp at hp⟩
  | cons x r ih =>
    intro nx n h h' E H
    obtain ⟨t, sz⟩ := x
    unfold liveE at H
    split at H
    · rename_i v hv
      split at H
      · rename_i v' sz' sz2
        split at H
        · rename_i l n2 h2 hq
          cases H
          obtain ⟨V, rfl, v2⟩ := ih hq
          have N1 : Names nx (nx + 1) [] h [(nx, some (.row true sz2 []))] fun w m m' R Rf => m' nx = some .nil := by
            refine ⟨fun k hk => .inl (by simp at hk; omega), by omega, fun B w m R Rf hD hag hp hn I => ?_⟩
            have hmn := hn nx (Nat.le_refl _) (by omega)
            obtain ⟨I1, E1⟩ := I.name (m' := updM m nx .nil) (l := .nil) (x := .row true sz2 []) (.inl hp) (updM_same _ _ _) rfl (.inl hmn) (fun i hi => updM_ne m _ hi) (.inl ⟨rfl, updM_same _ _ _⟩)
            exact ⟨_, I1, E1, fun i hi => updM_ne m _ (by omega), updM_same _ _ _⟩
          refine ⟨[(nx, some (.row true sz2 []))] ++ V, by rw [applyU_append]; rfl, (N1.trans (Q'' := fun w m m' R Rf => ∀ ρ : Nat → Value, (∀ t v, e.get t = some v → VR w m R Rf v (ρ t)) → ∀ p ∈ (t, AV.c (.ref nx)) :: l, VR w m' R Rf p.2 (ρ p.1)) v2 fun w m m1 m2 R Rf q1 q2 E1 E2 ρ hρ p hp => ?_).weak (by simp) fun _ _ _ _ _ h => h⟩
          rcases List.mem_cons.1 hp with rfl | hp
          · have hr := hρ t _ hv
            have := hr.v_inv
            simp only
            rw [this]
            exact .c (.ref0 (E2.m _ _ q1))
          · exact q2 ρ (fun t v ht => (hρ t v ht).mono E1) p hp
        · cases H
      · rename_i v' sz' hno
        split at H
        · rename_i l n2 h2 hq
          cases H
          obtain ⟨V, rfl, v2⟩ := ih hq
          refine ⟨V, rfl, v2.2.1 |> fun _ => ⟨v2.1, v2.2.1, fun B w m R Rf hD hag hp hn I => ?_⟩⟩
          obtain ⟨m1, c1, c2, c3, c4⟩ := v2.2.2 B w m R Rf hD hag hp hn I
          refine ⟨m1, c1, c2, c3, fun ρ hρ p hp => ?_⟩
          rcases List.mem_cons.1 hp with rfl | hp
          · exact (hρ t _ hv).mono c2
          · exact c4 ρ hρ p hp
        · cases H
    · cases H
end Go.AM

namespace Go.AM
open Go.RowKit

variable {B : Base} {w w' : World} {m : Lm} {R Rf : Bs} {h : Tr Buf} {P : Program} {β : Type}

theorem startH_get : ∀ (H : List Buf) (k : Nat) (h : Tr Buf) (i : Nat), (startH H k h).get i = if k ≤ i ∧ i < k + H.length then H[i - k]? else h.get i
  | [], k, h, i => by simp only [startH, List.length_nil]; rw [if_neg (by omega)]
  | b :: r, k, h, i => by
    simp only [startH, List.length_cons]
    rw [startH_get r (k + 1) _ i]
    by_cases e : i = k
    · subst e; rw [if_neg (by omega), Tr.get_set_same, if_pos (by omega)]; simp
    · rw [Tr.get_set_ne _ _ e]
      by_cases hk : k + 1 ≤ i ∧ i < k + 1 + r.length
      · rw [if_pos hk, if_pos (by omega), show i - k = (i - (k + 1)) + 1 by omega]; simp
      · rw [if_neg hk, if_neg (by omega)]
theorem startH_get0 (H : List Buf) (i : Nat) : (startH H 0 .leaf).get i = H[i]? := by
  rw [startH_get]
  by_cases hi : i < H.length
  · rw [if_pos (by omega)]; simp
  · rw [if_neg (by omega), Tr.get_leaf, List.getElem?_eq_none (by omega)]
theorem startE_get : ∀ (E : List (Nat × AV)) (e : Tr AV) (t : Nat) (v : AV), (startE E e).get t = some v → (∃ p ∈ E, p = (t, v)) ∨ e.get t = some v
  | [], e, t, v, hh => .inr hh
  | (t', v') :: r, e, t, v, hh => by
    simp only [startE] at hh
    rcases startE_get r _ t v hh with ⟨p, hp, e1⟩ | h1
    · exact .inl ⟨p, List.mem_cons_of_mem _ hp, e1⟩
    · rw [Tr.get_set] at h1
      by_cases e2 : t = t'
      · rw [if_pos e2] at h1; cases h1; subst e2; exact .inl ⟨_, List.mem_cons_self, rfl⟩
      · rw [if_neg e2] at h1; exact .inr h1

theorem posOf_spec : ∀ {l : List Nat} {id k j : Nat}, posOf l id k = some j → ∃ i, j = k + i ∧ l[i]? = some id
  | [], id, k, j, hh => by cases hh
  | x :: r, id, k, j, hh => by
    unfold posOf at hh
    split at hh
    · rename_i hb; cases hh; exact ⟨0, rfl, by simp [Nat.eq_of_beq_eq_true hb]⟩
    · obtain ⟨i, h1, h2⟩ := posOf_spec hh; exact ⟨i + 1, by omega, by simpa using h2⟩

theorem takeB_spec {ρ : Nat → Option Nat} : ∀ {ids : List Nat} {H : List Buf}, takeB h ρ ids = some H →
    H.length = ids.length ∧ ∀ (i : Nat) (b' : Buf), H[i]? = some b' → ∃ id, ids[i]? = some id ∧ ((∃ b, h.get id = some b ∧ renB ρ b = some b') ∨ b' = .gone)
  | [], H, hh => by cases hh; exact ⟨rfl, fun i b' hb => by simp at hb⟩
  | id :: r, H, hh => by
    unfold takeB at hh
    split at hh
    · rename_i b hb
      split at hh
      · rename_i b' l h1 h2
        cases hh
        obtain ⟨g1, g2⟩ := takeB_spec h2
        refine ⟨by simp [g1], fun i c hc => ?_⟩
        cases i with
        | zero => simp at hc; subst hc; exact ⟨id, rfl, .inl ⟨b, hb, h1⟩⟩
        | succ i => simp at hc; obtain ⟨id', e1, e2⟩ := g2 i c hc; exact ⟨id', by simpa using e1, e2⟩
      · cases hh
    · split at hh
      · rename_i l h2
        cases hh
        obtain ⟨g1, g2⟩ := takeB_spec h2
        refine ⟨by simp [g1], fun i c hc => ?_⟩
        cases i with
        | zero => simp at hc; subst hc; exact ⟨id, rfl, .inr rfl⟩
        | succ i => simp at hc; obtain ⟨id', e1, e2⟩ := g2 i c hc; exact ⟨id', by simpa using e1, e2⟩
      · cases hh

theorem nodupN_spec : ∀ {l : List Nat}, nodupN l = true → ∀ (i j x : Nat), l[i]? = some x → l[j]? = some x → i = j
  | [], _, i, j, x, h1, h2 => by simp at h1
  | y :: r, hn, i, j, x, h1, h2 => by
    simp only [nodupN, Bool.and_eq_true, Bool.not_eq_true'] at hn
    have hy : y ∉ r := by
      have := hn.1
      intro hm
      rw [List.contains_eq_mem] at this
      simp [hm] at this
    cases i with
    | zero =>
      cases j with
      | zero => rfl
      | succ j => simp at h1 h2; subst h1; exact absurd (List.mem_of_getElem? h2) hy
    | succ i =>
      cases j with
      | zero => simp at h1 h2; subst h2; exact absurd (List.mem_of_getElem? h1) hy
      | succ j => simp at h1 h2; rw [nodupN_spec hn.2 i j x h1 h2]

theorem reach_prefix (h : Tr Buf) : ∀ (n : Nat) (cs : List AC) (vs : List Nat), ∃ t, reach h n cs vs = vs ++ t
  | 0, _, vs => ⟨[], by simp [reach]⟩
  | n + 1, [], vs => ⟨[], by simp [reach]⟩
  | n + 1, c :: r, vs => by
    have step : ∀ (cs : List AC) (id : Nat), ∃ t, reach h n cs (vs ++ [id]) = vs ++ t := fun cs id => by
      obtain ⟨t, ht⟩ := reach_prefix h n cs (vs ++ [id]); exact ⟨id :: t, by rw [ht]; simp⟩
    unfold reach
    split
    · split
      · exact reach_prefix h n r vs
      · exact step r _
    · split
      · exact reach_prefix h n r vs
      · exact step r _
    · split
      · exact reach_prefix h n r vs
      · exact step r _
    · split
      · exact reach_prefix h n r vs
      · split
        · exact step _ _
        · exact step r _
    · exact reach_prefix h n _ vs
    · exact reach_prefix h n r vs

/-- Numbered anew: the place in a list. -/
def pick (ids : List Nat) (m : Lm) : Lm := fun i => (ids[i]?).bind m

theorem blk_pick {ids : List Nat} {i id k : Nat} (hi : ids[i]? = some id) : blk (pick ids m) i = some k ↔ blk m id = some k := by
  simp [blk, pick, hi]
theorem ren_pick (ids : List Nat) (m : Lm) : Ren (fun id => posOf ids id 0) m (pick ids m) := by
  intro i j l hρ hm
  obtain ⟨q, h1, h2⟩ := posOf_spec hρ
  have : j = q := by omega
  subst this
  simp [pick, h2, hm]

structure Renum (w : World) (m : Lm) (R Rf : Bs) (hD : Tr Buf) (ids : List Nat) (H : List Buf) : Prop where
  br : ∀ i x, (startH H 0 .leaf).get i = some x → BR w (pick ids m) R Rf i x
  lives : ∀ i, live (startH H 0 .leaf) i → ∃ id, ids[i]? = some id ∧ live hD id
  uniq : ∀ i j k, live (startH H 0 .leaf) i → live (startH H 0 .leaf) j → blk (pick ids m) i = some k → blk (pick ids m) j = some k → i = j
  none : ∀ i, H.length ≤ i → pick ids m i = none

theorem renB_gone {ρ : Nat → Option Nat} {b b' : Buf} (h : renB ρ b = some b') (hg : b' ≠ .gone) : b ≠ .gone := by
  intro e; subst e
  have : some Buf.gone = some b' := h
  cases this; exact hg rfl

theorem Inv.renum {hD : Tr Buf} {ids : List Nat} {H : List Buf} (I : Inv B w m R Rf hD) (hag : ∀ i ∈ ids, hD.get i = h.get i) (hT : takeB h (fun id => posOf ids id 0) ids = some H) (hnd : nodupN ids = true) :
    Renum w m R Rf hD ids H := by
  obtain ⟨hlen, hget⟩ := takeB_spec hT
  have hl : ∀ i, live (startH H 0 .leaf) i → ∃ id, ids[i]? = some id ∧ live hD id := by
    rintro i ⟨x, hx, hg⟩
    rw [startH_get0] at hx
    obtain ⟨id, h1, h2⟩ := hget i x hx
    rcases h2 with ⟨b, hb, hr⟩ | rfl
    · exact ⟨id, h1, b, (hag id (List.mem_of_getElem? h1)).trans hb, renB_gone hr hg⟩
    · exact absurd rfl hg
  refine ⟨fun i x hx => ?_, hl, fun i j k hi hj hbi hbj => ?_, fun i hi => ?_⟩
  · rw [startH_get0] at hx
    obtain ⟨id, h1, h2⟩ := hget i x hx
    rcases h2 with ⟨b, hb, hr⟩ | rfl
    · exact BR.ren (ren_pick ids m) (fun l hm => by simp [pick, h1, hm]) hr (I.br id b ((hag id (List.mem_of_getElem? h1)).trans hb))
    · trivial
  · obtain ⟨a, ha, hla⟩ := hl i hi
    obtain ⟨b, hb, hlb⟩ := hl j hj
    rw [blk_pick ha] at hbi
    rw [blk_pick hb] at hbj
    have := I.uniq a b k hla hlb hbi hbj
    subst this
    exact nodupN_spec hnd i j a ha hb
  · simp [pick, List.getElem?_eq_none (show ids.length ≤ i by omega)]

/-- The same memory, numbered by the first ones first. -/
theorem Inv.renumbered {hD : Tr Buf} {ids : List Nat} {H : List Buf} (I : Inv B w m R Rf hD) (hag : ∀ i ∈ ids, hD.get i = h.get i) (hT : takeB h (fun id => posOf ids id 0) ids = some H) (hnd : nodupN ids = true)
    (hp : ∀ i, i < B.p → ids[i]? = some i) : Inv B w (pick ids m) R Rf (startH H 0 .leaf) := by
  obtain ⟨h1, h2, h3, h4⟩ := I.renum hag hT hnd
  exact { I with
    br := h1
    uniq := h3
    dis := fun i k hi hb => by obtain ⟨id, e1, e2⟩ := h2 i hi; rw [blk_pick e1] at hb; exact I.dis id k e2 hb
    blt := fun i k hb => by
      cases hi : ids[i]? with
      | none => simp [blk, pick, hi] at hb
      | some id => rw [blk_pick hi] at hb; exact I.blt id k hb
    own := fun i k hi hb => by obtain ⟨id, e1, e2⟩ := h2 i hi; rw [blk_pick e1] at hb; exact I.own id k e2 hb
    pin := fun i hi => by simp only [pick, hp i hi, Option.bind_some]; exact I.pin i hi }
end Go.AM

namespace Go.AM
open Go.RowKit

variable {B : Base} {w w' : World} {m : Lm} {R Rf : Bs} {h : Tr Buf} {P : Program} {β : Type}

theorem EsAt.weak {Rs Rt : Bs} (hs : ∀ k, Rs k → Rt k) {b o sz : Nat} {es : List (List AC)} (H : EsAt w Rs b o sz es) : EsAt w Rt b o sz es :=
  fun i e he k x hx => let ⟨u, hu, hr⟩ := H i e he k x hx; ⟨u, hu, hr.weak hs⟩
theorem sel_le {S T : Bs} (hS : ∀ k, S k → T k) (fr : Bool) : ∀ k, sel fr S T k → T k := fun k hk => by cases fr <;> first | exact hk | exact hS k hk
theorem selF {S T : Bs} : sel false S T = T := rfl

structure View (B : Base) (w : World) (m : Lm) (R Rf : Bs) (h hD : Tr Buf) (R2 : Bs) (ids : List Nat) : Prop where
  inv : Inv B w m R Rf hD
  agree : ∀ i ∈ ids, hD.get i = h.get i
  sub : ∀ k, R k → R2 k
  seen : ∀ i ∈ ids, live hD i → ∀ k, blk m i = some k → R2 k

theorem View.part {hD : Tr Buf} {R2 : Bs} {ids ids' : List Nat} (V : View B w m R Rf h hD R2 ids) (hs : ∀ i ∈ ids', i ∈ ids) : View B w m R Rf h hD R2 ids' :=
  ⟨V.inv, fun i hi => V.agree i (hs i hi), V.sub, fun i hi => V.seen i (hs i hi)⟩

theorem CR.ro_view {R2 : Bs} {m' : Lm} {Rf' : Bs} {fr : Bool} {es : List (List AC)} {v : Value} (hRf : ∀ k, Rf k → R k) (hR : ∀ k, R k → R2 k) (H : CR w m R Rf (.ro fr es) v) : CR w m' R2 Rf' (.ro false es) v := by
  have hle : ∀ k, sel fr Rf R k → R2 k := fun k hk => hR k (sel_le hRf fr k hk)
  cases H with
  | ro0 => exact .ro0
  | ro vs hb hc hs h1 h2 => exact .ro vs (hle _ hb) hc hs h1 fun i e he k x hx => (h2 i e he k x hx).weak hle
theorem CR.rp_view {R2 : Bs} {m' : Lm} {Rf' : Bs} {fr : Bool} {cs : List AC} {o : Nat} {v : Value} (hRf : ∀ k, Rf k → R k) (hR : ∀ k, R k → R2 k) (H : CR w m R Rf (.rp fr cs o) v) : CR w m' R2 Rf' (.rp false cs o) v := by
  have hle : ∀ k, sel fr Rf R k → R2 k := fun k hk => hR k (sel_le hRf fr k hk)
  cases H with
  | rp vs hb h1 h2 => exact .rp vs (hle _ hb) h1 fun k x hx => (h2 k x hx).weak hle
theorem CR.v_any {x : Value} {v : Value} {m' : Lm} {R2 Rf' : Bs} (H : CR w m R Rf (.v x) v) : CR w m' R2 Rf' (.v x) v := by
  cases H with
  | v hs => exact .v hs

theorem View.ref {hD : Tr Buf} {R2 : Bs} {id : Nat} {cl : Bool} {sz : Nat} {es : List (List AC)} (V : View B w m R Rf h hD R2 [id]) (hg : h.get id = some (.row cl sz es)) {m' : Lm} {Rf' : Bs} :
    (∀ v, CR w m R Rf (.ref id) v → CR w m' R2 Rf' (.ro false es) v) ∧ ∀ off len v, CR w m R Rf (.sub id off len) v → CR w m' R2 Rf' (.ro false ((es.drop off).take len)) v := by
  have hle : ∀ k, sel cl Rf R k → R2 k := fun k hk => V.sub k (sel_le V.inv.sub cl k hk)
  have hbr := V.inv.br id _ ((V.agree id (by simp)).trans hg)
  rcases hbr with ⟨rfl, hm⟩ | ⟨b, base, N, hm, hW, hN, hs, hE⟩
  · refine ⟨fun v hv => ?_, fun off len v hv => ?_⟩
    · cases hv with
      | ref0 _ => exact .ro0
      | ref hm' _ _ _ => rw [hm] at hm'; cases hm'
    · cases hv with
      | sub0 _ => simpa using CR.ro0
      | subE hm' _ _ _ => rw [hm] at hm'; cases hm'
      | sub hm' _ _ _ _ => rw [hm] at hm'; cases hm'
  · have hb : R2 b := V.seen id (by simp) ⟨_, (V.agree id (by simp)).trans hg, by simp⟩ b (by simp [blk, hm, Loc.blk])
    have hE' := hE.weak hle
    refine ⟨fun v hv => ?_, fun off len v hv => ?_⟩
    · cases hv with
      | ref0 hm' => rw [hm] at hm'; cases hm'
      | ref hm' hn _ _ => rw [hm] at hm'; cases hm'; exact CR.of_es (fr := false) hb hn hs hE'
    · cases hv with
      | sub0 hm' => rw [hm] at hm'; cases hm'
      | subE hm' _ _ _ => simpa using CR.ro0
      | sub hm' hn hl _ _ =>
        rw [hm] at hm'; cases hm'
        have hlen : ((es.drop off).take len).length = len := by simp; omega
        have := CR.of_es (m := m') (R := R2) (Rf := Rf') (fr := false) (es := (es.drop off).take len) hb (by rw [hlen]; exact hl) (fun e he => hs e (part_mem he)) (hE'.part off len)
        rw [hlen] at this
        exact this

theorem snap_spec {hD : Tr Buf} {R2 : Bs} : ∀ n : Nat,
    (∀ {x y : AC} {ids : List Nat} {v : Value}, snapC h n x = some (y, ids) → View B w m R Rf h hD R2 ids → CR w m R Rf x v → ∀ {m' : Lm} {Rf' : Bs}, CR w m' R2 Rf' y v) ∧
    (∀ {xs ys : List AC} {ids : List Nat} {us : List Value}, snapL h n xs = some (ys, ids) → View B w m R Rf h hD R2 ids → Fa (CR w m R Rf) xs us → ∀ {m' : Lm} {Rf' : Bs}, Fa (CR w m' R2 Rf') ys us) := by
  intro n
  induction n with
  | zero => exact ⟨fun H => by simp [snapC] at H, fun H => by simp [snapL] at H⟩
  | succ n ih =>
    refine ⟨?_, ?_⟩
    · intro x y ids v H V hv m' Rf'
      unfold snapC at H
      split at H
      · rename_i e; cases e
      · cases H; cases hv; exact .ro0
      · cases H; exact hv.v_any
      · cases H; exact hv.ro_view V.inv.sub V.sub
      · cases H; exact hv.rp_view V.inv.sub V.sub
      · split at H
        · rename_i hg; cases H; exact (V.ref hg).1 _ hv
        · cases H
      · split at H
        · rename_i hg; cases H; exact (V.ref hg).2 _ _ _ hv
        · cases H
      · rename_i n' id i o e
        cases e
        split at H
        · rename_i t cs hg
          split at H
          · rename_i hi0
            split at H
            · rename_i ds ids' hq
              cases H
              have hi : i = 0 := Nat.eq_of_beq_eq_true hi0
              subst hi
              obtain ⟨b, base, N, hm, hW, hN, hCs⟩ := V.inv.br id _ ((V.agree id (by simp)).trans hg)
              obtain ⟨us, hf, hus⟩ := hCs.vals
              have hf' := ih.2 (us := us) hq (V.part (fun i hi => by simp [hi])) hf (m' := noL) (Rf' := R2)
              have hb : R2 b := V.seen id (by simp) ⟨_, (V.agree id (by simp)).trans hg, by simp⟩ b (by simp [blk, hm, Loc.blk])
              have hlen := hf'.length
              have hget : ∀ k, us[k]? = some (us.getD k undef) ∨ us.length ≤ k := fun k => by
                rcases Nat.lt_or_ge k us.length with hk | hk
                · left; rw [List.getD_eq_getElem?_getD, List.getElem?_eq_getElem hk]; rfl
                · right; exact hk
              have hvv : v = .pointer (some ⟨b, base + o, none⟩) := by
                cases hv with
                | ptrR hm' _ => rw [hm] at hm'; cases hm'
                | ptrO hm' => rw [hm] at hm'; cases hm'; rfl
              subst hvv
              refine .rp (fun k => us.getD k undef) hb (fun k hk => ?_) fun k x hx => ?_
              · rcases hget k with e | e
                · exact hus k _ e
                · omega
              · obtain ⟨u, hu, hr⟩ := hf'.get k x hx
                rcases hget k with e | e
                · rw [hu] at e; cases e
                  rw [List.getD_eq_getElem?_getD, hu]; exact hr
                · rw [List.getElem?_eq_none e] at hu; cases hu
            · cases H
          · cases H
        · cases H
      · rename_i n' f caps e
        cases e
        split at H
        · rename_i ds ids' hq
          cases H
          cases hv with
          | fn vals hl hh =>
            have hf : Fa (CR w m R Rf) caps vals.toList := Fa.of_get (by simpa using hl) fun k a b ha hb => hh k a b ha (by simpa using hb)
            have hf' := ih.2 hq V hf (m' := m') (Rf' := Rf')
            refine .fn vals (by simpa using hf'.length) fun k x u hx hu => ?_
            obtain ⟨u', hu', hr⟩ := hf'.get k x hx
            rw [show vals.toList[k]? = some u by simpa using hu] at hu'
            cases hu'; exact hr
        · cases H
      · cases H
    · intro xs ys ids us H V hf m' Rf'
      unfold snapL at H
      split at H
      · rename_i e; cases e
      · cases H; cases hf; exact .nil
      · rename_i n' c r e
        cases e
        split at H
        · rename_i d a l b h1 h2
          cases H
          cases hf with
          | cons hc hr => exact .cons (ih.1 h1 (V.part fun i hi => by simp [hi]) hc) (ih.2 h2 (V.part fun i hi => by simp [hi]) hr)
        · cases H

theorem snapV_spec {hD : Tr Buf} {R2 : Bs} {x y : AV} {ids : List Nat} {v : Value} (H : snapV h x = some (y, ids)) (V : View B w m R Rf h hD R2 ids) (hv : VR w m R Rf x v) {m' : Lm} {Rf' : Bs} : VR w m' R2 Rf' y v := by
  unfold snapV at H
  split at H
  · split at H
    · rename_i hq; cases H; exact .c ((snap_spec 1000).1 hq V hv.c_inv)
    · cases H
  · split at H
    · rename_i hq
      cases H
      obtain ⟨arr, rfl, hf⟩ := hv.agg_inv
      exact .agg arr ((snap_spec 1000).2 hq V hf)
    · cases H
  · cases H

/-- The arguments: those handed over as they are (in the wider shared memory), the others as views. -/
theorem splitA_spec {hD : Tr Buf} {R2 : Bs} {m1 : Lm} {Rf1 : Bs} (hE : ∀ x v, VR w m R Rf x v → VR w m1 R2 Rf1 x v) : ∀ {xs ys : List AV} {ms : List Bool} {ids : List Nat} {vs : List Value}, splitA h xs ms = some (ys, ids) → View B w m R Rf h hD R2 ids → Fa (VR w m R Rf) xs vs →
    Fa (VR w m1 R2 Rf1) ys vs := by
  intro xs
  induction xs with
  | nil => intro ys ms ids vs H V hf; cases H; cases hf; exact .nil
  | cons x r ih =>
    intro ys ms ids vs H V hf
    cases hf with
    | cons hx hr =>
      unfold splitA at H
      split at H
      · split at H
        · rename_i l ids' hq; cases H; exact .cons (hE _ _ hx) (ih hq V hr)
        · cases H
      · split at H
        · rename_i u a l b h1 h2; cases H
          exact .cons (snapV_spec h1 (V.part fun i hi => by simp [hi]) hx) (ih h2 (V.part fun i hi => by simp [hi]) hr)
        · cases H
end Go.AM

namespace Go.AM
open Go.RowKit

variable {B : Base} {w w' : World} {m : Lm} {R Rf : Bs} {h : Tr Buf} {P : Program} {β : Type}

def baseOf (w : World) (m : Lm) (R Rf : Bs) (args : List AV) (H : List Buf) : Base :=
  { w0 := w, F0 := fun k => ∃ i, live (startH H 0 .leaf) i ∧ blk m i = some k, R0 := R, Rf0 := Rf, m0 := m, p := pinOf args (lead H) }

def CPost (B : Base) (r : AV) (H' : List Buf) (v : Value) (w' : World) : Prop :=
  ∃ m' R' Rf', Inv B w' m' R' Rf' (startH H' 0 .leaf) ∧ VR w' m' R' Rf' r v ∧ ∀ b t n, B.w0.shape? b = some (t, n) → w'.shape? b = some (t, n)

/-- Called with what these arguments and buffers mean, the function returns what the answer means. -/
def Contract (P : Program) (f : FuncId) (args : List AV) (H : List Buf) (r : AV) (H' : List Buf) : Prop :=
  ∀ (w : World) (m : Lm) (R Rf : Bs) (vs : List Value), Inv (baseOf w m R Rf args H) w m R Rf (startH H 0 .leaf) → (∀ i, H.length ≤ i → m i = none) → pinOf args (lead H) ≤ H.length → Fa (VR w m R Rf) args vs →
    Calls P f vs.toArray w fun e w' => ∃ v, e = .returned v ∧ CPost (baseOf w m R Rf args H) r H' v w'

def GoodG (P : Program) (G : FuncId → List AV → List Buf → (AV → List Buf → Option β) → Option β) : Prop :=
  ∀ (f : FuncId) (a : List AV) (H : List Buf) (K : AV → List Buf → Option β) (out : β), G f a H K = some out → ∃ r H', Contract P f a H r H' ∧ K r H' = some out

/-! ### Clean values -/
theorem cleanL_get : ∀ {cs : List AC}, cleanL cs = true → ∀ (k : Nat) (x : AC), cs[k]? = some x → cleanC x = true
  | [], _, k, x, hx => by simp at hx
  | c :: r, hc, k, x, hx => by
    simp only [cleanL, Bool.and_eq_true] at hc
    cases k with
    | zero => simp at hx; subst hx; exact hc.1
    | succ k => exact cleanL_get hc.2 k x (by simpa using hx)
theorem CR.clean {R2 : Bs} {x : AC} {v : Value} (H : CR w m R Rf x v) : cleanC x = true → CR w m R2 Rf x v := by
  induction H with
  | v hs => intro _; exact .v hs
  | ro0 => intro _; exact .ro0
  | ro vs hb hc hs h1 h2 ih =>
    intro hc'
    simp only [cleanC] at hc'
    subst hc'
    exact .ro vs hb hc hs h1 h2
  | rp vs hb h1 h2 ih =>
    intro hc'
    simp only [cleanC] at hc'
    subst hc'
    exact .rp vs hb h1 h2
  | ref0 hm => intro _; exact .ref0 hm
  | ref hm hn hs hc => intro _; exact .ref hm hn hs hc
  | sub0 hm => intro _; exact .sub0 hm
  | subE hm hn hs ho => intro _; exact .subE hm hn hs ho
  | sub hm hn hl hs hc => intro _; exact .sub hm hn hl hs hc
  | ptrR hm hi => intro _; exact .ptrR hm hi
  | ptrO hm => intro _; exact .ptrO hm
  | mp hm => intro _; exact .mp hm
  | fn vals hl hh ih =>
    intro hc'
    simp only [cleanC] at hc'
    exact .fn vals hl fun k x u hx hu => ih k x u hx hu (cleanL_get hc' k x hx)
theorem cleanL_append : ∀ {a b : List AC}, cleanL (a ++ b) = true → cleanL a = true ∧ cleanL b = true
  | [], b, hc => ⟨rfl, hc⟩
  | c :: r, b, hc => by
    simp only [List.cons_append, cleanL, Bool.and_eq_true] at hc ⊢
    have := cleanL_append hc.2
    exact ⟨⟨hc.1, this.1⟩, this.2⟩
theorem cleanVs_get : ∀ {vs : List AV}, cleanL (cellsVs vs) = true → ∀ (k : Nat) (x : AV), vs[k]? = some x → cleanL (cellsV x) = true
  | [], _, k, x, hx => by simp at hx
  | v :: r, hc, k, x, hx => by
    simp only [cellsVs] at hc
    have h2 := cleanL_append hc
    cases k with
    | zero => simp at hx; subst hx; exact h2.1
    | succ k => exact cleanVs_get h2.2 k x (by simpa using hx)
theorem Fa.clean {R2 : Bs} {cs : List AC} {us : List Value} (hf : Fa (CR w m R Rf) cs us) (hc : cleanL cs = true) : Fa (CR w m R2 Rf) cs us := by
  induction hf with
  | nil => exact .nil
  | cons hr _ ih =>
    simp only [cleanL, Bool.and_eq_true] at hc
    exact .cons (hr.clean hc.1) (ih hc.2)
theorem VR.clean {R2 : Bs} {x : AV} {v : Value} (H : VR w m R Rf x v) : cleanL (cellsV x) = true → VR w m R2 Rf x v := by
  induction H with
  | c hr => intro hc; simp only [cellsV, cleanL, Bool.and_eq_true] at hc; exact .c (hr.clean hc.1)
  | agg arr hf => intro hc; simp only [cellsV] at hc; exact .agg arr (hf.clean hc)
  | tup arr hl hh ih => intro hc; simp only [cellsV] at hc; exact .tup arr hl fun k x u hx hu => ih k x u hx hu (cleanVs_get hc k x hx)
theorem BR.clean {R2 : Bs} {id : Nat} {x : Buf} (H : BR w m R Rf id x) (hc : cleanB x = true) : BR w m R2 Rf id x := by
  cases x with
  | gone => trivial
  | obj t cs =>
    obtain ⟨b, base, N, h1, h2, h3, h4⟩ := H
    exact ⟨b, base, N, h1, h2, h3, fun k x hx => let ⟨u, hu, hr⟩ := h4 k x hx; ⟨u, hu, hr.clean (cleanL_get hc k x hx)⟩⟩
  | row cl sz es =>
    simp only [cleanB] at hc
    subst hc
    exact H
  | map cl es clock => exact H

/-! ### The callee's memory laid back -/
def layU (objs : List Nat) (nx : Nat) : Nat → List Buf → List (Nat × Option Buf)
  | _, [] => []
  | q, b :: r => (backN objs nx q, some b) :: layU objs nx (q + 1) r
def delU (ids : List Nat) : List (Nat × Option Buf) := ids.map fun i => (i, none)

theorem applyU_delU : ∀ (ids : List Nat) (h : Tr Buf), applyU (delU ids) h = delAll h ids
  | [], h => rfl
  | i :: r, h => by show applyU (delU r) (h.del i) = delAll (h.del i) r; exact applyU_delU r _
theorem delAllK_eq (ids : List Nat) : ∀ (h : Tr Buf) (k : Tr Buf → β), delAllK h ids k = k (delAll h ids) := by
  induction ids with
  | nil => intro h k; rfl
  | cons i r ih => intro h k; simp only [delAllK, Tr.setK_eq, delAll]; exact ih _ k
theorem layK_spec {st : Bool} {ρ : Nat → Option Nat} {objs : List Nat} {nx : Nat} {out : β} : ∀ {bs : List Buf} {q : Nat} {h : Tr Buf} {k : Tr Buf → Option β}, layK st ρ objs nx q bs h k = some out →
    ∃ cs : List Buf, cs.length = bs.length ∧ (∀ (j : Nat) (b : Buf), bs[j]? = some b → ∃ c, cs[j]? = some c ∧ renB ρ b = some c) ∧ k (applyU (layU objs nx q cs) h) = some out
  | [], q, h, k, H => ⟨[], rfl, fun j b hb => by simp at hb, H⟩
  | b :: r, q, h, k, H => by
    unfold layK at H
    split at H
    · rename_i c hc
      rw [frcBuf_eq, Tr.setK_eq] at H
      obtain ⟨cs, h1, h2, h3⟩ := layK_spec H
      refine ⟨c :: cs, by simp [h1], fun j b' hb => ?_, h3⟩
      cases j with
      | zero => simp at hb; subst hb; exact ⟨c, rfl, hc⟩
      | succ j => simp at hb; obtain ⟨c', e1, e2⟩ := h2 j b' hb; exact ⟨c', by simpa using e1, e2⟩
    · cases H
theorem lay_get {objs : List Nat} {nx : Nat} : ∀ {cs : List Buf} {q : Nat} {h : Tr Buf} {i : Nat} {x : Buf}, (applyU (layU objs nx q cs) h).get i = some x →
    (∃ j, cs[j]? = some x ∧ i = backN objs nx (q + j)) ∨ ((∀ j, j < cs.length → backN objs nx (q + j) ≠ i) ∧ h.get i = some x)
  | [], q, h, i, x, H => .inr ⟨fun j hj => by simp at hj, H⟩
  | b :: r, q, h, i, x, H => by
    have H' : (applyU (layU objs nx (q + 1) r) (h.set (backN objs nx q) b)).get i = some x := H
    rcases lay_get H' with ⟨j, h1, h2⟩ | ⟨h1, h2⟩
    · exact .inl ⟨j + 1, by simpa using h1, by rw [h2, show q + 1 + j = q + (j + 1) by omega]⟩
    · rw [Tr.get_set] at h2
      by_cases e : i = backN objs nx q
      · rw [if_pos e] at h2; cases h2; exact .inl ⟨0, rfl, by rw [e]; rfl⟩
      · rw [if_neg e] at h2
        refine .inr ⟨fun j hj => ?_, h2⟩
        cases j with
        | zero => exact fun e' => e e'.symm
        | succ j => have := h1 j (by simpa using hj); rwa [show q + 1 + j = q + (j + 1) by omega] at this
theorem lay_keys {objs : List Nat} {nx : Nat} : ∀ {cs : List Buf} {q k : Nat}, k ∈ (layU objs nx q cs).map (·.1) → ∃ j, j < cs.length ∧ k = backN objs nx (q + j)
  | [], q, k, hk => by simp [layU] at hk
  | b :: r, q, k, hk => by
    simp only [layU, List.map_cons, List.mem_cons] at hk
    rcases hk with rfl | hk
    · exact ⟨0, by simp, rfl⟩
    · obtain ⟨j, h1, h2⟩ := lay_keys hk
      exact ⟨j + 1, by simpa using h1, by rw [h2, show q + 1 + j = q + (j + 1) by omega]⟩
end Go.AM

namespace Go.AM
open Go.RowKit

variable {B : Base} {w w' : World} {m : Lm} {R Rf : Bs} {h : Tr Buf} {P : Program} {β : Type}

/-- Where the buffers lie behind a call. -/
def backM (m mc : Lm) (p n nx : Nat) : Lm := fun i => if nx ≤ i ∧ i - nx + p < n then mc (p + (i - nx)) else m i

theorem backM_old {m mc : Lm} {p n nx i : Nat} (h : i < nx) : backM m mc p n nx i = m i := by unfold backM; rw [if_neg (by omega)]

structure CallSt (B : Base) (w : World) (m : Lm) (R Rf : Bs) (h2 hD : Tr Buf) (seen all objs : List Nat) (nx : Nat) (H : List Buf) (args : List AV) : Prop where
  inv : Inv B w m R Rf hD
  agree : ∀ i ∈ all, hD.get i = h2.get i
  take : takeB h2 (fun id => posOf all id 0) all = some H
  nodup : nodupN all = true
  sep : ∀ i ∈ seen, i ∉ all
  lt : ∀ i ∈ all, i < nx
  pin : pinOf args (lead H) = objs.length
  pre : ∀ i : Nat, i < objs.length → all[i]? = objs[i]?
  len : objs.length ≤ all.length
  bp : B.p ≤ nx

def wide (m : Lm) (R : Bs) (hD : Tr Buf) (seen : List Nat) : Bs := fun k => R k ∨ ∃ i ∈ seen, live hD i ∧ blk m i = some k

section
variable {h2 hD : Tr Buf} {seen all objs : List Nat} {nx : Nat} {H : List Buf} {args : List AV}

/-- A block that the callee has. -/
theorem CallSt.own (C : CallSt B w m R Rf h2 hD seen all objs nx H args) {k : Nat} (hk : ∃ i, live (startH H 0 .leaf) i ∧ blk (pick all m) i = some k) : ∃ id ∈ all, live hD id ∧ blk m id = some k := by
  obtain ⟨i, hi, hb⟩ := hk
  obtain ⟨id, e1, e2⟩ := (C.inv.renum C.agree C.take C.nodup).lives i hi
  rw [blk_pick e1] at hb
  exact ⟨id, List.mem_of_getElem? e1, e2, hb⟩

theorem CallSt.start (C : CallSt B w m R Rf h2 hD seen all objs nx H args) : Inv (baseOf w (pick all m) (wide m R hD seen) Rf args H) w (pick all m) (wide m R hD seen) Rf (startH H 0 .leaf) := by
  have RN := C.inv.renum C.agree C.take C.nodup
  have E : Ext w w (pick all m) (pick all m) R (wide m R hD seen) Rf Rf := ⟨fun _ _ => rfl, fun _ => .inl, fun _ => id, C.inv.sub, fun _ _ => id, fun _ _ _ => id⟩
  exact {
    br := fun i x hx => (RN.br i x hx).mono E fun _ _ => rfl
    uniq := RN.uniq
    dis := fun i k hi hb hR => by
      obtain ⟨id, e1, e2, e3⟩ := C.own ⟨i, hi, hb⟩
      rcases hR with hR | ⟨j, hj, hlj, hbj⟩
      · exact C.inv.dis id k e2 e3 hR
      · have := C.inv.uniq id j k e2 hlj e3 hbj
        subst this
        exact C.sep _ hj e1
    sub := fun k hk => .inl (C.inv.sub k hk)
    rlt := fun k hk => by
      rcases hk with hk | ⟨j, hj, hlj, hbj⟩
      · exact C.inv.rlt k hk
      · exact C.inv.blt j k hbj
    blt := fun i k hb => by
      cases hi : all[i]? with
      | none => simp [blk, pick, hi] at hb
      | some id => rw [blk_pick hi] at hb; exact C.inv.blt id k hb
    frame := fun _ _ _ => rfl
    size := Nat.le_refl _
    os := rfl
    tape := rfl
    output := rfl
    own := fun i k hi hb => .inl ⟨i, hi, hb⟩
    rin := fun k hk => .inl hk
    rfin := fun k hk => .inl hk
    pin := fun _ _ => rfl }

variable {mc : Lm} {Rc Rfc : Bs} {H' cs : List Buf}

theorem live_new (C : CallSt B w m R Rf h2 hD seen all objs nx H args) (hm : ∀ i, nx ≤ i → i < nx + H'.length → m i = none) {i : Nat} (hl : live hD i) : ¬ (nx ≤ i ∧ i < nx + H'.length) ∨ hD.get i = some .gone := by
  obtain ⟨x, hx, hg⟩ := hl
  by_cases hi : nx ≤ i ∧ i < nx + H'.length
  · exfalso
    have hn := hm i hi.1 hi.2
    have hbr := C.inv.br i x hx
    cases x with
    | gone => exact hg rfl
    | obj t cs => obtain ⟨b, base, N, h1, _⟩ := hbr; rw [hn] at h1; cases h1
    | row cl sz es => rcases hbr with ⟨_, h1⟩ | ⟨b, base, N, h1, _⟩ <;> rw [hn] at h1 <;> cases h1
    | map cl es c => obtain ⟨b, ents, h1, _⟩ := hbr; rw [hn] at h1; cases h1
  · exact .inl hi

/-- What a call leaves. -/
theorem CallSt.done (C : CallSt B w m R Rf h2 hD seen all objs nx H args) (hm : ∀ i, nx ≤ i → i < nx + H'.length → m i = none) (c : Bool)
    (I' : Inv (baseOf w (pick all m) (wide m R hD seen) Rf args H) w' mc Rc Rfc (startH H' 0 .leaf))
    (hsh : ∀ b t n, w.shape? b = some (t, n) → w'.shape? b = some (t, n))
    (hcs : cs.length = H'.length) (hren : ∀ (j : Nat) (b : Buf), H'[j]? = some b → ∃ x, cs[j]? = some x ∧ renB (fun q => match Nat.blt q H'.length with | true => some (backN objs nx q) | false => none) b = some x)
    (hcl : c = true → H'.all cleanB = true) :
    Inv B w' (backM m mc objs.length H'.length nx) (fun k => R k ∨ sel c Rfc Rc k) (fun k => Rf k ∨ Rfc k)
      (applyU (sel c [] (delU seen)) (applyU (layU objs nx 0 cs) (delAll hD all))) ∧
    Ext w w' m (backM m mc objs.length H'.length nx) R (fun k => R k ∨ sel c Rfc Rc k) Rf (fun k => Rf k ∨ Rfc k) ∧
    Ren (fun q => match Nat.blt q H'.length with | true => some (backN objs nx q) | false => none) mc (backM m mc objs.length H'.length nx) ∧
    ∀ i, ¬ (nx ≤ i ∧ i < nx + H'.length) → backM m mc objs.length H'.length nx i = m i := by
  have RN := C.inv.renum C.agree C.take C.nodup
  have hF : ∀ k, (∃ i, live (startH H 0 .leaf) i ∧ blk (pick all m) i = some k) → ¬ R k := fun k hk => by
    obtain ⟨id, _, e2, e3⟩ := C.own hk; exact C.inv.dis id k e2 e3
  have hpin : ∀ q id, objs[q]? = some id → mc q = m id := fun q id hq => by
    have hql : q < objs.length := (List.getElem?_eq_some_iff.1 hq).1
    have h1 := I'.pin q (by show q < pinOf args (lead H); rw [C.pin]; exact hql)
    rw [h1]
    show pick all m q = m id
    simp [pick, C.pre q hql, hq]
  -- where a buffer of the callee's lies
  have hback : ∀ q, q < H'.length → backM m mc objs.length H'.length nx (backN objs nx q) = mc q := fun q hq => by
    unfold backN
    cases ho : objs[q]? with
    | some id =>
      have hlt : id < nx := C.lt id (by
        have hql : q < objs.length := (List.getElem?_eq_some_iff.1 ho).1
        have := C.pre q hql
        rw [ho] at this
        exact List.mem_of_getElem? this)
      simp only
      rw [backM_old hlt, hpin q id ho]
    | none =>
      have hql : objs.length ≤ q := by
        rcases Nat.lt_or_ge q objs.length with h' | h'
        · rw [List.getElem?_eq_getElem h'] at ho; cases ho
        · exact h'
      unfold backM
      simp only
      rw [if_pos (by omega)]
      congr 1; omega
  have hinj : ∀ q1 q2, q1 < H'.length → q2 < H'.length → backN objs nx q1 = backN objs nx q2 → True := fun _ _ _ _ _ => trivial
  have hRen : Ren (fun q => match Nat.blt q H'.length with | true => some (backN objs nx q) | false => none) mc (backM m mc objs.length H'.length nx) := by
    intro q j l hρ hl
    simp only at hρ
    split at hρ
    · rename_i hb
      cases hρ
      rw [hback q (Nat.le_of_ble_eq_true hb)]; exact hl
    · cases hρ
  have hother : ∀ i, ¬ (nx ≤ i ∧ i < nx + H'.length) → backM m mc objs.length H'.length nx i = m i := fun i hi => by
    unfold backM
    rw [if_neg (by omega)]
  have E : Ext w w' m (backM m mc objs.length H'.length nx) R (fun k => R k ∨ sel c Rfc Rc k) Rf (fun k => Rf k ∨ Rfc k) := by
    refine ⟨fun k hk => ?_, fun _ => .inl, fun _ => .inl, C.inv.sub, fun i l hi => ?_, hsh⟩
    · exact I'.frame k (C.inv.rlt k hk) fun hk' => hF k hk' hk
    · rw [hother i (fun hc => by rw [hm i hc.1 hc.2] at hi; cases hi)]; exact hi
  have Ec : Ext w' w' (backM m mc objs.length H'.length nx) (backM m mc objs.length H'.length nx) (sel c Rfc Rc) (fun k => R k ∨ sel c Rfc Rc k) Rfc (fun k => Rf k ∨ Rfc k) :=
    ⟨fun _ _ => rfl, fun _ => .inr, fun _ => .inr, fun k hk => by cases c <;> first | exact I'.sub k hk | exact hk, fun _ _ => id, fun _ _ _ => id⟩
  -- which buffers there are
  have hsplit : ∀ i x, (applyU (sel c [] (delU seen)) (applyU (layU objs nx 0 cs) (delAll hD all))).get i = some x →
      (∃ q, q < H'.length ∧ cs[q]? = some x ∧ i = backN objs nx q) ∨ (hD.get i = some x ∧ i ∉ all ∧ (c = false → i ∉ seen)) := by
    intro i x hx
    have h1 : (applyU (layU objs nx 0 cs) (delAll hD all)).get i = some x ∧ (c = false → i ∉ seen) := by
      cases c with
      | true => exact ⟨hx, fun e => by cases e⟩
      | false =>
        have hx' : (applyU (delU seen) (applyU (layU objs nx 0 cs) (delAll hD all))).get i = some x := hx
        rw [applyU_delU, delAll_get] at hx'
        clear hx
        have hx := hx'
        clear hx'
        split at hx
        · cases hx
        · rename_i hn; exact ⟨hx, fun _ => hn⟩
    rcases lay_get h1.1 with ⟨q, e1, e2⟩ | ⟨e1, e2⟩
    · have : q < cs.length := (List.getElem?_eq_some_iff.1 e1).1
      exact .inl ⟨q, by omega, e1, by rw [e2]; simp⟩
    · rw [delAll_get] at e2
      split at e2
      · cases e2
      · rename_i hn; exact .inr ⟨e2, hn, h1.2⟩
  have hcq : ∀ q x, q < H'.length → cs[q]? = some x → ∃ b, H'[q]? = some b ∧ renB (fun q => match Nat.blt q H'.length with | true => some (backN objs nx q) | false => none) b = some x := fun q x hq hx => by
    obtain ⟨y, e1, e2⟩ := hren q _ (List.getElem?_eq_getElem hq)
    rw [hx] at e1; cases e1
    exact ⟨_, List.getElem?_eq_getElem hq, e2⟩
  have hlive : ∀ i, live (applyU (sel c [] (delU seen)) (applyU (layU objs nx 0 cs) (delAll hD all))) i →
      (∃ q, q < H'.length ∧ live (startH H' 0 .leaf) q ∧ i = backN objs nx q) ∨ (live hD i ∧ i ∉ all ∧ (c = false → i ∉ seen)) := by
    rintro i ⟨x, hx, hg⟩
    rcases hsplit i x hx with ⟨q, e0, e1, e2⟩ | ⟨e1, e2, e3⟩
    · obtain ⟨b, hb, hr⟩ := hcq q x e0 e1
      exact .inl ⟨q, e0, ⟨b, by rw [startH_get0]; exact hb, renB_gone hr hg⟩, e2⟩
    · exact .inr ⟨⟨x, e1, hg⟩, e2, e3⟩
  have hold : ∀ i, live hD i → backM m mc objs.length H'.length nx i = m i := fun i hi => by
    rcases live_new C hm hi with h1 | h1
    · exact hother i h1
    · obtain ⟨x, hx, hg⟩ := hi; rw [h1] at hx; cases hx; exact absurd rfl hg
  have hblkN : ∀ q k, q < H'.length → (blk (backM m mc objs.length H'.length nx) (backN objs nx q) = some k ↔ blk mc q = some k) := fun q k hq => by simp [blk, hback q hq]
  have hblkO : ∀ i k, live hD i → (blk (backM m mc objs.length H'.length nx) i = some k ↔ blk m i = some k) := fun i k hi => by simp [blk, hold i hi]
  -- a block of the callee's is none of an untouched buffer
  have hapart : ∀ i k, live hD i → i ∉ all → blk m i = some k → ¬ (∃ j, live (startH H 0 .leaf) j ∧ blk (pick all m) j = some k) := fun i k hi hn hb hk => by
    obtain ⟨id, e1, e2, e3⟩ := C.own hk
    have := C.inv.uniq i id k hi e2 hb e3
    subst this; exact hn e1
  have hsz : w.heap.size ≤ w'.heap.size := I'.size
  refine ⟨?_, E, hRen, hother⟩
  exact {
    br := fun i x hx => by
      rcases hsplit i x hx with ⟨q, e0, e1, rfl⟩ | ⟨e1, e2, e3⟩
      · obtain ⟨b, hb, hr⟩ := hcq q x e0 e1
        have hbr := I'.br q b (by rw [startH_get0]; exact hb)
        have hbr2 : BR w' mc (sel c Rfc Rc) Rfc q b := by
          cases c with
          | false => exact hbr
          | true =>
            exact hbr.clean (List.all_eq_true.1 (hcl rfl) b (List.mem_of_getElem? hb))
        exact (hbr2.ren hRen (fun l hl => by rw [hback q e0]; exact hl) hr).mono Ec fun _ _ => rfl
      · by_cases hg : x = .gone
        · subst hg; trivial
        · refine (C.inv.br i x e1).mono E fun k hk => ?_
          exact I'.frame k (C.inv.blt i k hk) (hapart i k ⟨x, e1, hg⟩ e2 hk)
    uniq := fun i j k hi hj hbi hbj => by
      rcases hlive i hi with ⟨q1, a1, a2, rfl⟩ | ⟨a1, a2, a3⟩ <;> rcases hlive j hj with ⟨q2, b1, b2, rfl⟩ | ⟨b1, b2, b3⟩
      · rw [hblkN q1 k a1] at hbi; rw [hblkN q2 k b1] at hbj
        rw [I'.uniq q1 q2 k a2 b2 hbi hbj]
      · rw [hblkN q1 k a1] at hbi; rw [hblkO j k b1] at hbj
        rcases I'.own q1 k a2 hbi with h1 | h1
        · exact absurd h1 (hapart j k b1 b2 hbj)
        · have := C.inv.blt j k hbj; exact absurd h1 (by show ¬ w.heap.size ≤ k; omega)
      · rw [hblkN q2 k b1] at hbj; rw [hblkO i k a1] at hbi
        rcases I'.own q2 k b2 hbj with h1 | h1
        · exact absurd h1 (hapart i k a1 a2 hbi)
        · have := C.inv.blt i k hbi; exact absurd h1 (by show ¬ w.heap.size ≤ k; omega)
      · rw [hblkO i k a1] at hbi; rw [hblkO j k b1] at hbj
        exact C.inv.uniq i j k a1 b1 hbi hbj
    dis := fun i k hi hb hR => by
      rcases hlive i hi with ⟨q, a1, a2, rfl⟩ | ⟨a1, a2, a3⟩
      · rw [hblkN q k a1] at hb
        rcases hR with hR | hR
        · rcases I'.own q k a2 hb with h1 | h1
          · exact hF k h1 hR
          · have := C.inv.rlt k hR; exact absurd h1 (by show ¬ w.heap.size ≤ k; omega)
        · have : Rc k := by cases c <;> first | exact hR | exact I'.sub k hR
          exact I'.dis q k a2 hb this
      · rw [hblkO i k a1] at hb
        have hlt := C.inv.blt i k hb
        rcases hR with hR | hR
        · exact C.inv.dis i k a1 hb hR
        · cases c with
          | true =>
            rcases I'.rfin k hR with h1 | h1 | h1
            · exact C.inv.dis i k a1 hb (C.inv.sub k h1)
            · exact hapart i k a1 a2 hb h1
            · exact absurd h1 (by show ¬ w.heap.size ≤ k; omega)
          | false =>
            rcases I'.rin k hR with h1 | h1 | h1
            · rcases h1 with h1 | ⟨j, hj, hlj, hbj⟩
              · exact C.inv.dis i k a1 hb h1
              · have := C.inv.uniq i j k a1 hlj hb hbj
                subst this; exact a3 rfl hj
            · exact hapart i k a1 a2 hb h1
            · exact absurd h1 (by show ¬ w.heap.size ≤ k; omega)
    sub := fun k hk => by
      rcases hk with hk | hk
      · exact .inl (C.inv.sub k hk)
      · exact .inr (by cases c <;> first | exact I'.sub k hk | exact hk)
    rlt := fun k hk => by
      rcases hk with hk | hk
      · exact Nat.lt_of_lt_of_le (C.inv.rlt k hk) hsz
      · exact I'.rlt k (by cases c <;> first | exact hk | exact I'.sub k hk)
    blt := fun i k hb => by
      by_cases hi : nx ≤ i ∧ i - nx + objs.length < H'.length
      · have : blk mc (objs.length + (i - nx)) = some k := by
          have e : backM m mc objs.length H'.length nx i = mc (objs.length + (i - nx)) := by unfold backM; rw [if_pos hi]
          unfold blk at hb ⊢
          rwa [e] at hb
        exact I'.blt _ k this
      · have : blk m i = some k := by
          have e : backM m mc objs.length H'.length nx i = m i := by unfold backM; rw [if_neg hi]
          unfold blk at hb ⊢
          rwa [e] at hb
        exact Nat.lt_of_lt_of_le (C.inv.blt i k this) hsz
    frame := fun k hk hB => by
      have hk' : k < w.heap.size := Nat.lt_of_lt_of_le hk C.inv.size
      refine (I'.frame k hk' fun hF' => ?_).trans (C.inv.frame k hk hB)
      obtain ⟨id, e1, e2, e3⟩ := C.own hF'
      rcases C.inv.own id k e2 e3 with h1 | h1
      · exact hB h1
      · omega
    size := Nat.le_trans C.inv.size hsz
    os := I'.os.trans C.inv.os
    tape := I'.tape.trans C.inv.tape
    output := I'.output.trans C.inv.output
    own := fun i k hi hb => by
      rcases hlive i hi with ⟨q, a1, a2, rfl⟩ | ⟨a1, a2, a3⟩
      · rw [hblkN q k a1] at hb
        rcases I'.own q k a2 hb with h1 | h1
        · obtain ⟨id, e1, e2, e3⟩ := C.own h1
          exact C.inv.own id k e2 e3
        · exact .inr (Nat.le_trans C.inv.size h1)
      · rw [hblkO i k a1] at hb; exact C.inv.own i k a1 hb
    rin := fun k hk => by
      rcases hk with hk | hk
      · exact C.inv.rin k hk
      · have hk : Rc k := by cases c <;> first | exact hk | exact I'.sub k hk
        rcases I'.rin k hk with h1 | h1 | h1
        · rcases h1 with h1 | ⟨j, hj, hlj, hbj⟩
          · exact C.inv.rin k h1
          · exact .inr (C.inv.own j k hlj hbj)
        · obtain ⟨id, e1, e2, e3⟩ := C.own h1
          exact .inr (C.inv.own id k e2 e3)
        · exact .inr (.inr (Nat.le_trans C.inv.size h1))
    rfin := fun k hk => by
      rcases hk with hk | hk
      · exact C.inv.rfin k hk
      · rcases I'.rfin k hk with h1 | h1 | h1
        · exact C.inv.rfin k h1
        · obtain ⟨id, e1, e2, e3⟩ := C.own h1
          exact .inr (C.inv.own id k e2 e3)
        · exact .inr (.inr (Nat.le_trans C.inv.size h1))
    pin := fun i hi => by
      rw [hother i (by have := C.bp; omega)]; exact C.inv.pin i hi }
end
end Go.AM

namespace Go.AM
open Go.RowKit

variable {B : Base} {w w' : World} {m : Lm} {R Rf : Bs} {h : Tr Buf} {P : Program} {β : Type}

def CallGood (B : Base) (P : Program) (f : FuncId) (xs : List AV) (nx nx' : Nat) (h : Tr Buf) (v : AV) (U : List (Nat × Option Buf)) (rd wr : List Nat) : Prop :=
  (∀ k ∈ U.map (·.1), (nx ≤ k ∧ k < nx') ∨ k ∈ wr) ∧ nx ≤ nx' ∧
  ∀ (w : World) (m : Lm) (R Rf : Bs) (hD : Tr Buf) (vs : List Value), Fa (VR w m R Rf) xs vs → (∀ i ∈ rd ++ wr, hD.get i = h.get i) → B.p ≤ nx → (∀ i, nx ≤ i → i < nx' → m i = none) → Inv B w m R Rf hD →
    Calls P f vs.toArray w fun e w' => ∃ val m' R' Rf', e = .returned val ∧ Inv B w' m' R' Rf' (applyU U hD) ∧ VR w' m' R' Rf' v val ∧ Ext w w' m m' R R' Rf Rf' ∧ ∀ i, ¬ (nx ≤ i ∧ i < nx') → m' i = m i

theorem Fa.renVs {ρ : Nat → Option Nat} {m' : Lm} (hR : Ren ρ m m') {xs ys : List AV} {vs : List Value} (hf : Fa (VR w m R Rf) xs vs) (hy : renVs ρ xs = some ys) : Fa (VR w m' R Rf) ys vs := by
  obtain ⟨h1, h2⟩ := renVs_get hy
  refine Fa.of_get (h1.trans hf.length) fun k a b ha hb => ?_
  obtain ⟨x, hx, hr⟩ := h2 k a ha
  obtain ⟨b', hb', hr'⟩ := hf.get k x hx
  rw [hb] at hb'; cases hb'
  exact hr'.ren hR hr

theorem callK_ok {st : Bool} {md : FuncId → List Bool} {G : FuncId → List AV → List Buf → (AV → List Buf → Option β) → Option β} {f : FuncId} {xs : List AV} {s : S} {K : KT β} {out : β} (hG : GoodG P G)
    (H : callK st P md G f xs s K = some out) : ∃ v U rd wr nx', K v ⟨s.e, applyU U s.h, nx'⟩ rd wr = some out ∧ CallGood B P f xs s.nx nx' s.h v U rd wr := by
  unfold callK at H
  split at H
  case h_2 => cases H
  rename_i fn hfn
  split at H
  case h_2 => cases H
  rename_i hb
  generalize hq1 : normM P xs (md f) fn.params.toList s.nx s.h = q1 at H
  obtain ⟨ys, nx1, h1⟩ := q1
  obtain ⟨U1, rfl, N1⟩ := normM_names hq1
  simp only at H
  generalize htou : reach (applyU U1 s.h) 100000 (mutCs (md f) ys) [] = tou at H
  generalize hq2 : normH P tou nx1 (applyU U1 s.h) = q2 at H
  obtain ⟨nx2, h2⟩ := q2
  obtain ⟨U2, rfl, N2⟩ := normH_names hq2
  simp only at H
  split at H
  case h_2 => cases H
  rename_i zs seen hsp
  generalize hids : reach (applyU U2 (applyU U1 s.h)) 100000 (mutCs (md f) ys) [] = ids at H
  generalize hdirs : directs (md f) ys [] = dirs at H
  generalize hobjs : (ids.filter fun id => match (applyU U2 (applyU U1 s.h)).get id with | some b => isObj b | none => false) ++ dirs = objs at H
  generalize hrest : (ids.filter fun id => match (applyU U2 (applyU U1 s.h)).get id with | some b => !isObj b && !dirs.contains id | none => !dirs.contains id) = rest at H
  generalize hall : objs ++ rest = all at H
  split at H
  case h_2 => cases H
  rename_i args Hb hargs hHb
  split at H
  case h_1 => cases H
  rename_i hchk
  simp only [Bool.or_eq_false_iff, Bool.not_eq_false', Bool.and_eq_true] at hchk
  obtain ⟨⟨hsep, hpin⟩, hnd, hlt⟩ := hchk
  obtain ⟨r, H', hC, H⟩ := hG _ _ _ _ _ H
  split at H
  case h_2 => cases H
  rename_i v hv
  rw [delAllK_eq] at H
  obtain ⟨cs, hcs, hren, H⟩ := layK_spec H
  rw [frcN_eq] at H
  generalize hcl : (cleanL (cellsV r) && H'.all cleanB) = c at H
  -- the updates
  have hfin : ∃ rd wr, K v ⟨s.e, applyU (U1 ++ (U2 ++ (delU all ++ (layU objs nx2 0 cs ++ sel c [] (delU seen))))) s.h, nx2 + H'.length⟩ rd wr = some out ∧ (∀ i ∈ seen, i ∈ rd ++ wr) ∧ (∀ i ∈ tou, i ∈ wr) ∧ (∀ i ∈ all, i ∈ wr) ∧ (c = false → ∀ i ∈ seen, i ∈ wr) := by
    simp only [applyU_append, applyU_delU]
    cases s with
    | mk e h nx =>
      cases c with
      | true =>
        exact ⟨seen, tou ++ all, H, fun i hi => by simp [hi], fun i hi => by simp [hi], fun i hi => by simp [hi], fun e => by cases e⟩
      | false =>
        simp only [delAllK_eq] at H
        refine ⟨[], seen ++ (tou ++ all), ?_, fun i hi => by simp [hi], fun i hi => by simp [hi], fun i hi => by simp [hi], fun _ i hi => by simp [hi]⟩
        show K v ⟨e, applyU (delU seen) _, _⟩ _ _ = _
        rw [applyU_delU]
        exact H
  obtain ⟨rd, wr, hK, hseen, htouw, hallw, hseenw⟩ := hfin
  refine ⟨v, _, rd, wr, nx2 + H'.length, hK, ?_, ?_, ?_⟩
  · intro k hk
    have n1 := N1.2.1
    have n2 := N2.2.1
    simp only [List.map_append, List.mem_append] at hk
    rcases hk with hk | hk | hk | hk | hk
    · rcases N1.1 k hk with h1 | h1
      · exact .inl (by omega)
      · simp at h1
    · rcases N2.1 k hk with h1 | h1
      · exact .inl (by omega)
      · exact .inr (htouw k h1)
    · simp only [delU, List.map_map, List.mem_map, Function.comp_apply] at hk
      obtain ⟨a, ha, rfl⟩ := hk
      exact .inr (hallw _ ha)
    · obtain ⟨j, hj, rfl⟩ := lay_keys hk
      unfold backN
      cases ho : objs[0 + j]? with
      | some id => exact .inr (hallw _ (by rw [← hall]; exact List.mem_append_left _ (List.mem_of_getElem? ho)))
      | none => exact .inl (by simp only; omega)
    · cases c with
      | true => simp [sel] at hk
      | false =>
        simp only [sel, delU, List.map_map, List.mem_map, Function.comp_apply] at hk
        obtain ⟨a, ha, rfl⟩ := hk
        exact .inr (hseenw rfl _ ha)
  · have n1 := N1.2.1
    have n2 := N2.2.1
    omega
  · intro w m R Rf hD vs hf hag hp hn I
    have n1 := N1.2.1
    have n2 := N2.2.1
    have hagw : ∀ i ∈ wr, hD.get i = s.h.get i := fun i hi => hag i (by simp [hi])
    obtain ⟨m1, I1, E1, o1, f1⟩ := N1.2.2 B w m R Rf hD (by simp) hp (fun i h1 h2 => hn i h1 (by omega)) I
    obtain ⟨m2, I2, E2, o2, _⟩ := N2.2.2 B w m1 R Rf (applyU U1 hD) (fun i hi => applyU_agree U1 _ _ i (hagw i (htouw i hi))) (by omega) (fun i h1 h2 => by rw [o1 i (by omega)]; exact hn i (by omega) (by omega)) I1
    have hag2 : ∀ i ∈ rd ++ wr, (applyU U2 (applyU U1 hD)).get i = (applyU U2 (applyU U1 s.h)).get i := fun i hi => applyU_agree U2 _ _ i (applyU_agree U1 _ _ i (hag i hi))
    generalize hD2e : applyU U2 (applyU U1 hD) = hD2 at *
    generalize h2e : applyU U2 (applyU U1 s.h) = h2 at *
    have hm2 : ∀ i, nx2 ≤ i → i < nx2 + H'.length → m2 i = none := fun i h1 h2 => by
      rw [o2 i (by omega), o1 i (by omega)]; exact hn i (by omega) (by omega)
    have C : CallSt B w m2 R Rf h2 hD2 seen all objs nx2 Hb args := {
      inv := I2
      agree := fun i hi => hag2 i (by simp [hallw i hi])
      take := hHb
      nodup := hnd
      sep := fun i hi ha => by
        have := List.any_eq_false.1 hsep i hi
        rw [List.contains_eq_mem] at this
        simp [ha] at this
      lt := fun i hi => Nat.le_of_ble_eq_true (List.all_eq_true.1 hlt i hi)
      pin := Nat.eq_of_beq_eq_true hpin
      pre := fun i hi => by rw [← hall, List.getElem?_append_left hi]
      len := by rw [← hall]; simp
      bp := by omega }
    have hE : Ext w w m2 m2 R (wide m2 R hD2 seen) Rf Rf := ⟨fun _ _ => rfl, fun _ => .inl, fun _ => id, I2.sub, fun _ _ => id, fun _ _ _ => id⟩
    have hzs := splitA_spec (h := h2) (hD := hD2) (R2 := wide m2 R hD2 seen) (m1 := m2) (Rf1 := Rf) (fun x v hx => hx.mono hE) hsp ⟨I2, fun i hi => hag2 i (hseen i hi), fun _ => .inl, fun i hi hl k hk => .inr ⟨i, hi, hl, hk⟩⟩
      ((f1 vs hf).mono fun _ _ hx => hx.mono E2)
    have hav := Fa.renVs (ren_pick all m2) hzs hargs
    have hlen := (takeB_spec hHb).1
    have RN := C.inv.renum C.agree C.take C.nodup
    refine (hC w (pick all m2) (wide m2 R hD2 seen) Rf vs C.start RN.none (by rw [C.pin, hlen]; exact C.len) hav).mono fun e w' ⟨val, he, mc, Rc, Rfc, I', hvr, hsh⟩ => ?_
    obtain ⟨I3, E3, hRen, o3⟩ := C.done hm2 c I' hsh hcs hren (fun e => by rw [e] at hcl; exact (Bool.and_eq_true _ _ ▸ hcl).2)
    refine ⟨val, _, _, _, he, ?_, ?_, (E1.trans E2).trans E3, fun i hi => ?_⟩
    · simp only [applyU_append, applyU_delU, hD2e]
      exact I3
    · have h0 : VR w' mc (sel c Rfc Rc) Rfc r val := by
        cases c with
        | false => exact hvr
        | true => exact hvr.clean (Bool.and_eq_true _ _ ▸ hcl).1
      refine (h0.ren hRen hv).mono ⟨fun _ _ => rfl, fun _ => .inr, fun _ => .inr, fun k hk => ?_, fun _ _ => id, fun _ _ _ => id⟩
      cases c <;> first | exact I'.sub k hk | exact hk
    · rw [o3 i (by omega), o2 i (by omega), o1 i (by omega)]
end Go.AM

namespace Go.AM
open Go.RowKit

variable {B : Base} {w w' : World} {m : Lm} {R Rf : Bs} {h : Tr Buf} {P : Program} {β : Type}

/-- An op or a call does what the machine says. -/
def GoodX (B : Base) (P : Program) (o : Oper) (id nx nx' : Nat) (s : S) (v : AV) (U : List (Nat × Option Buf)) (rd wr : List Nat) : Prop :=
  (∀ k ∈ U.map (·.1), k = id ∨ (nx ≤ k ∧ k < nx') ∨ k ∈ wr) ∧ nx ≤ nx' ∧
  ∀ (w : World) (m : Lm) (R Rf : Bs) (hD : Tr Buf) (a : Act), EnvR o s w m R Rf a.eval → (∀ i ∈ rd ++ wr, hD.get i = s.h.get i) → B.p ≤ id → m id = none → B.p ≤ nx → (∀ i, nx ≤ i → i < nx' → m i = none) → Inv B w m R Rf hD →
    ∀ (N : Act → World → Prop) (Q : Exit → Act → World → Prop),
      (∀ val w' m' R' Rf', Inv B w' m' R' Rf' (applyU U hD) → VR w' m' R' Rf' v val → Ext w w' m m' R R' Rf Rf' → (∀ i, i ≠ id → ¬ (nx ≤ i ∧ i < nx') → m' i = m i) → N (a.put o.dst val) w') → o.wp P a w N Q

theorem GoodX.of_good {o : Oper} {id : Nat} {s : S} {v : AV} {U : List (Nat × Option Buf)} {rd wr : List Nat} (G : Good B P o id s v U rd wr) : GoodX B P o id s.nx s.nx s v U rd wr := by
  refine ⟨fun k hk => (G.1 k hk).imp (fun h => h) .inr, Nat.le_refl _, fun w m R Rf hD a he hag hp hm _ _ I N Q hN => ?_⟩
  obtain ⟨n, val, w', hrun, hans, m', R', Rf', I', hv, E, ho⟩ := G.2 w m R Rf hD a.eval he hag hp hm I
  have := hN val w' m' R' Rf' I' hv E fun i hi _ => ho i hi
  unfold Oper.wp
  rw [hrun]
  rcases hans with rfl | ⟨rfl, _, rfl⟩
  · exact this
  · exact this

theorem func_inv {g : FuncId} {caps : List AC} {v : Value} (h : VR w m R Rf (.c (.fn g caps)) v) : ∃ vals : Array Value, v = .func (.func g) #[] vals ∧ Fa (CR w m R Rf) caps vals.toList := by
  cases h with
  | c h =>
    cases h with
    | fn vals hl hh => exact ⟨vals, rfl, Fa.of_get (by simpa using hl) fun k a b ha hb => hh k a b ha (by simpa using hb)⟩

theorem opsOf_env {o : Oper} {s : S} {ρ : Operand → Value} (he : EnvR o s w m R Rf ρ) : ∀ {l : List Operand} {vs : List AV}, opsOf s l = some vs → (∀ x ∈ l, x ∈ o.op.operands.toList) → Fa (VR w m R Rf) vs (l.map ρ)
  | [], vs, hh, _ => by cases hh; exact .nil
  | x :: r, vs, hh, hin => by
    unfold opsOf at hh
    split at hh
    · rename_i v l hv hl
      cases hh
      exact .cons (he x (hin x (by simp)) v hv) (opsOf_env he hl fun y hy => hin y (by simp [hy]))
    · cases hh

theorem Fa.map_c {caps : List AC} {us : List Value} (h : Fa (CR w m R Rf) caps us) : Fa (VR w m R Rf) (caps.map .c) us := by
  induction h with
  | nil => exact .nil
  | cons h _ ih => exact .cons (.c h) ih

/-- What is asked of the program's code. -/
def wfEdge (i : Nat) (o : Oper) : Bool := o.after.toList.all fun e => !Region.binds .any e || Nat.blt e.on i
def wfOps (n : Nat) : List Oper → Nat → Bool
  | [], _ => true
  | o :: r, i => (match o.dst with | some d => Nat.blt d n | none => true) && wfEdge i o && (match o.op with | .select .. => false | _ => true) && wfOps n r (i + 1)
def wfC (n : Nat) : Code → Bool
  | .region _ ops _ => wfOps n ops.toList 0
  | .seq a b => wfC n a && wfC n b
  | .cond _ a b => wfC n a && wfC n b
  | .block _ c => wfC n c
  | .loop c => wfC n c
  | .scope c => wfC n c
  | _ => true
def wfFn (fn : Func) : Bool := match fn.body with
  | some c => wfC fn.ntmps c && !(fn.name == "runtime.NumGoroutine") && Nat.ble fn.params.size fn.ntmps
  | none => true
structure WfP (P : Program) : Prop where
  mixed : P.follows .mixedOrders = true
  fns : P.funcs.toList.all wfFn = true

theorem WfP.fn {f : FuncId} {fn : Func} (W : WfP P) (h : P.funcs[f]? = some fn) : wfFn fn = true :=
  List.all_eq_true.1 W.fns fn (Array.mem_toList_iff.2 (Array.mem_of_getElem? h))

theorem call_ok {o : Oper} {id : Nat} {s : S} {g : FuncId} {xs : List AV} {K : KT β} {out : β} {G : FuncId → List AV → List Buf → (AV → List Buf → Option β) → Option β} {st : Bool} {md : FuncId → List Bool} (W : WfP P) (hG : GoodG P G)
    (hc : calleeOf s o = some (g, xs)) (H : callK st P md G g xs s K = some out) : ∃ v U rd wr nx', K v ⟨s.e, applyU U s.h, nx'⟩ rd wr = some out ∧ GoodX B P o id s.nx nx' s v U rd wr := by
  have hbody : ∃ fn, P.funcs[g]? = some fn ∧ fn.body.isSome = true := by
    unfold callK at H
    split at H
    · rename_i fn hfn
      split at H
      · rename_i hb; exact ⟨fn, hfn, hb⟩
      · cases H
    · cases H
  obtain ⟨v, U, rd, wr, nx', hK, h1, h2, h3⟩ := callK_ok (B := B) hG H
  refine ⟨v, U, rd, wr, nx', hK, fun k hk => .inr (h1 k hk), h2, fun w m R Rf hD a he hag hp hm hpn hn I N Q hN => ?_⟩
  unfold calleeOf at hc
  split at hc
  · rename_i f args argTypes ho
    split at hc
    · rename_i g' caps xs0 hf hxs
      cases hc
      obtain ⟨vals, hfv, hcaps⟩ := func_inv (he f (by simp [ho, Op.operands, Call.operands]) _ hf)
      have hargs := opsOf_env he hxs (fun x hx => by simp only [ho, Op.operands, Call.operands, Array.toList_append]; exact List.mem_append_right _ hx)
      have hall : Fa (VR w m R Rf) (xs0 ++ caps.map .c) (args.toList.map a.eval ++ vals.toList) := by
        exact hargs.append (Fa.map_c hcaps)
      have := h3 w m R Rf hD _ hall hag hpn hn I
      unfold Oper.wp
      obtain ⟨fn, hfn, hb⟩ := hbody
      have hw := W.fn hfn
      have hnm : (fn.name == "runtime.NumGoroutine") = false := by
        unfold wfFn at hw
        cases hbd : fn.body with
        | none => rw [hbd] at hb; cases hb
        | some c => rw [hbd] at hw; simp only [Bool.and_eq_true, Bool.not_eq_true'] at hw; exact hw.1.2
      have hnn : fn.body.isNone = false := by cases hbd : fn.body with
        | none => rw [hbd] at hb; cases hb
        | some c => rfl
      have hrun : (execOp a.eval o).run P w = .ok (.enter g (args.map a.eval ++ vals)) w := by
        have hprog : (program : Sem Program).run P w = .ok P w := rfl
        simp only [execOp, ho, resolve, hfv, Deferred.ofValue, invoke, callFunc, Sem.run_bind, Sem.run_pure, Result.andThen_ok, hprog, hfn, hnm, hnn, Bool.false_eq_true, if_false, Array.empty_append]
      rw [hrun, Oper.upon_enter]
      have hvs : (args.toList.map a.eval ++ vals.toList).toArray = args.map a.eval ++ vals := by
        apply Array.ext'; simp
      rw [hvs] at this
      refine this.mono fun e w' ⟨val, m', R', Rf', he, I', hv, E, ho'⟩ => ?_
      subst he
      exact hN val w' m' R' Rf' I' hv E fun i _ hi => ho' i hi
    · cases hc
  · cases hc

theorem oneK_ok {C : Ctx} {o : Oper} {id : Nat} {s : S} {K : AV → S → List Nat → List Nat → Bool → Option Out} {out : Out} (hP : C.P = P) (W : WfP P) (hG : GoodG P C.G) (H : oneK C id o s K = some out) :
    ∃ v U rd wr nx' mem, K v ⟨s.e, applyU U s.h, nx'⟩ rd wr mem = some out ∧ GoodX B P o id s.nx nx' s v U rd wr := by
  subst hP
  unfold oneK at H
  split at H
  · split at H
    · rename_i g xs hc
      obtain ⟨v, U, rd, wr, nx', h1, h2⟩ := call_ok (B := B) (id := id) W hG hc H
      exact ⟨v, U, rd, wr, nx', _, h1, h2⟩
    · cases H
  · obtain ⟨v, U, rd, wr, h1, h2⟩ := opK_ok (B := B) H
    exact ⟨v, U, rd, wr, s.nx, _, h1, GoodX.of_good h2⟩

/-! ### A lookup beside the entry at the same key -/
theorem castOne_par {fr : Bool} {cs : List AC} {i : Nat} {K : AC → Option β} {ct : CT} {out : β} (H : castOne fr cs i K ct = some out) :
    ∃ x, K x = some out ∧ ∀ {γ : Type} (K2 : AC → Option γ), castOne fr cs i K2 ct = K2 x := by
  cases ct with
  | int k =>
    obtain ⟨n, hn, hK⟩ := bnd_some (show bnd (cInt k cs i) (fun n => K (.v (.int k n))) = some out from H)
    exact ⟨_, hK, fun K2 => by show bnd (cInt k cs i) _ = _; rw [hn]; rfl⟩
  | bool =>
    obtain ⟨n, hn, hK⟩ := bnd_some (show bnd (cBool cs i) (fun b => K (.v (.bool b))) = some out from H)
    exact ⟨_, hK, fun K2 => by show bnd (cBool cs i) _ = _; rw [hn]; rfl⟩
  | str =>
    obtain ⟨n, hn, hK⟩ := bnd_some (show bnd (cStr cs i) (fun b => K (.v (.string b))) = some out from H)
    exact ⟨_, hK, fun K2 => by show bnd (cStr cs i) _ = _; rw [hn]; rfl⟩
  | sl n =>
    obtain ⟨n, hn, hK⟩ := bnd_some (show bnd (cRo cs i) (fun es => K (.ro fr es)) = some out from H)
    exact ⟨_, hK, fun K2 => by show bnd (cRo cs i) _ = _; rw [hn]; rfl⟩
  | pt => obtain ⟨n, hn, hK⟩ := bnd_some (show bnd (cPt cs i) K = some out from H); exact ⟨_, hK, fun K2 => by show bnd (cPt cs i) _ = _; rw [hn]; rfl⟩
  | mp => obtain ⟨n, hn, hK⟩ := bnd_some (show bnd (cPt cs i) K = some out from H); exact ⟨_, hK, fun K2 => by show bnd (cPt cs i) _ = _; rw [hn]; rfl⟩
  | fn => obtain ⟨n, hn, hK⟩ := bnd_some (show bnd (cPt cs i) K = some out from H); exact ⟨_, hK, fun K2 => by show bnd (cPt cs i) _ = _; rw [hn]; rfl⟩
  | other => obtain ⟨n, hn, hK⟩ := bnd_some (show bnd (cPt cs i) K = some out from H); exact ⟨_, hK, fun K2 => by show bnd (cPt cs i) _ = _; rw [hn]; rfl⟩
theorem castK_par {fr : Bool} {cs : List AC} : ∀ {cts : List CT} {i : Nat} {K : List AC → Option β} {out : β}, castK fr cs cts i K = some out →
    ∃ xs, K xs = some out ∧ ∀ {γ : Type} (K2 : List AC → Option γ), castK fr cs cts i K2 = K2 xs
  | [], i, K, out, H => ⟨[], H, fun K2 => rfl⟩
  | ct :: r, i, K, out, H => by
    obtain ⟨x, h1, h2⟩ := castOne_par (show castOne fr cs i (fun x => castK fr cs r (i + 1) fun xs => K (x :: xs)) ct = some out from H)
    obtain ⟨xs, h3, h4⟩ := castK_par h1
    exact ⟨x :: xs, h3, fun K2 => by show castOne fr cs i (fun x => castK fr cs r (i + 1) fun xs => K2 (x :: xs)) ct = _; rw [h2, h4]⟩

theorem fitCs_self : ∀ {ts : List CT} {cs : List AC}, fitCs ts cs = true → eqCells cs cs = some true
  | [], [], _ => rfl
  | [], _ :: _, h => by cases h
  | _ :: _, [], h => by cases h
  | t :: ts, c :: cs, h => by
    simp only [fitCs, Bool.and_eq_true] at h
    have h1 : eqCell c c = some true := by
      have := h.1
      unfold fitC at this
      split at this <;> first | (simp [eqCell, strEq]; done) | cases this
    have h2 := fitCs_self h.2
    cases cs with
    | nil => exact h1
    | cons d ds =>
      show (match eqCell c c, eqCells (d :: ds) (d :: ds) with | some p, some q => some (p && q) | _, _ => none) = some true
      rw [h1, h2]; rfl
theorem keyT_self {t : TypeId} {ks : List AC} (h : keyT P t ks = true) : eqCells ks ks = some true := by
  unfold keyT at h
  rw [Bool.and_eq_true] at h
  have h1 := h.1
  unfold fitT at h1
  split at h1
  · exact fitCs_self h1
  · cases h1

theorem mfind_set {key : List AC} (hk : eqCells key key = some true) : ∀ {es : List (List AC × List AC × Nat)} {n i : Nat} {v : List AC} {b : Nat}, mfind key es n = some (some (i, v, b)) →
    n ≤ i ∧ mfind key (es.set (i - n) (key, v, b)) n = some (some (i, v, b))
  | [], n, i, v, b, h => by cases h
  | (k, v', b') :: r, n, i, v, b, h => by
    unfold mfind at h
    split at h
    · cases h
      refine ⟨Nat.le_refl _, ?_⟩
      rw [Nat.sub_self]
      simp only [List.set_cons_zero]
      unfold mfind
      rw [hk]
    · rename_i hf
      obtain ⟨h1, h2⟩ := mfind_set hk h
      refine ⟨by omega, ?_⟩
      rw [show i - n = (i - (n + 1)) + 1 by omega]
      simp only [List.set_cons_succ]
      unfold mfind
      rw [hf]
      exact h2
    · cases h
theorem mfind_snoc {key : List AC} (hk : eqCells key key = some true) {z : List AC} {c : Nat} : ∀ {es : List (List AC × List AC × Nat)} {n : Nat}, mfind key es n = some none → mfind key (es ++ [(key, z, c)]) n = some (some (n + es.length, z, c))
  | [], n, h => by
    show mfind key [(key, z, c)] n = _
    unfold mfind
    rw [hk]
    rfl
  | (k, v', b') :: r, n, h => by
    unfold mfind at h
    split at h
    · cases h
    · rename_i hf
      have := mfind_snoc hk (z := z) (c := c) h
      simp only [List.cons_append]
      unfold mfind
      rw [hf]
      simp only
      rw [this, List.length_cons]
      congr 3; omega
    · cases h
theorem mlook_ment {es es' : List (List AC × List AC × Nat)} {clock clock' born : Nat} {ks z v0 : List AC} {vb : List AC × Bool} (hk : eqCells ks ks = some true) (hm : ment es clock ks z = some (es', clock', v0, born)) (hl : mlook es ks z = some vb) :
    ∃ b', mlook es' ks z = some (vb.1, b') := by
  unfold ment at hm
  unfold mlook at hl
  cases hf : mfind ks es 0 with
  | none => rw [hf] at hm; cases hm
  | some q =>
    cases q with
    | none =>
      rw [hf] at hm hl
      cases hm; cases hl
      refine ⟨true, ?_⟩
      unfold mlook
      rw [mfind_snoc hk hf]
    | some p =>
      obtain ⟨i, v, b⟩ := p
      rw [hf] at hm hl
      cases hm; cases hl
      refine ⟨true, ?_⟩
      unfold mlook
      have := (mfind_set hk hf).2
      rw [Nat.sub_zero] at this
      rw [this]

theorem lookupK_par {t : TypeId} {x key : AV} {ok : Bool} {s : S} {K : KT β} {out : β} (H : lookupK P t x key ok s K = some out) :
    ∃ k e id ks cl es clock z vb v, mapT P t = some (k, e) ∧ x = .c (.mp id) ∧ key.cellsM = some ks ∧ s.h.get id = some (.map cl es clock) ∧ zeroCs P e = some z ∧ keyT P k ks = true ∧ mlook es ks z = some vb ∧
      K (match ok with | true => .tup [v, aBool vb.2] | false => v) s [id] [] = some out ∧
      ∀ (hD : Tr Buf) (es2 : List (List AC × List AC × Nat)) (c2 : Nat) (b2 : Bool), hD.get id = some (.map cl es2 c2) → mlook es2 ks z = some (vb.1, b2) → ∀ {γ : Type} (K2 : KT γ), lookupK P t x key false { s with h := hD } K2 = K2 v { s with h := hD } [id] [] := by
  unfold lookupK at H
  split at H
  · rename_i k e id' ks hmt hks
    split at H
    · rename_i cl es clock z hget hz
      split at H
      · rename_i hc
        obtain ⟨vb, hlook, H⟩ := bnd_some H
        split at H
        · rename_i hvl
          obtain ⟨cs, H, hpar⟩ := castK_par H
          split at H
          · rename_i av hav
            refine ⟨k, e, id', ks, cl, es, clock, z, vb, av, hmt, rfl, hks, hget, hz, ?_, hlook, H, fun hD es2 c2 b2 hg2 hl2 γ K2 => ?_⟩
            · simp only [Bool.and_eq_true] at hc; exact hc.1.1
            · unfold lookupK
              rw [hmt, hks]
              simp only [hg2, hz, hc, hl2, bnd, hvl]
              rw [hpar]
              simp only [hav]
          · cases H
        · cases H
      · cases H
    · cases H
  · cases H


/-- What a lookup did, what an entry did. -/
structure LkD (P : Program) (o : Oper) (s : S) (v : AV) (U : List (Nat × Option Buf)) (rd wr : List Nat) : Prop where
  lk : ∀ t m k, o.op = .lookup t m k false → ∃ xv kv, s.op m = some xv ∧ s.op k = some kv ∧ lookupK P t xv kv false s (fun v s rd wr => some (v, s, rd, wr)) = some (v, s, rd, wr) ∧ U = []
  me : ∀ t m k, o.op = .mapEntry t m k → ∃ xv kv k' e id ks cl es clock z r, s.op m = some xv ∧ s.op k = some kv ∧ mapT P t = some (k', e) ∧ xv = .c (.mp id) ∧ kv.cellsM = some ks ∧ s.h.get id = some (.map cl es clock) ∧ zeroCs P e = some z ∧ ment es clock ks z = some r ∧ U = [(id, some (.map cl r.1 r.2.1))]

theorem Good.of_does {o : Oper} {id : Nat} {s : S} {v : AV} {U : List (Nat × Option Buf)} {rd wr : List Nat}
    (hyp : (Operand → Value) → World → Lm → Bs → Bs → Prop) (x : (Operand → Value) → Sem Value) (hx : ∀ ρ, execOp ρ o = (do pure (.value (← x ρ))))
    (hd : ∀ ρ, Does B P id U s.h rd wr v (hyp ρ) fun _ => x ρ) (hh : ∀ w m R Rf ρ, EnvR o s w m R Rf ρ → hyp ρ w m R Rf) : Good B P o id s v U rd wr := by
  refine ⟨(hd fun _ => undef).1, fun w m R Rf hD ρ he hag hp hm I => ?_⟩
  obtain ⟨val, w', h1, h2⟩ := (hd ρ).2 w m R Rf hD (hh w m R Rf ρ he) hag hp hm I
  refine ⟨.value val, val, w', ?_, .inl rfl, h2⟩
  rw [hx]
  simp only [Sem.run_bind, h1, Result.andThen_ok, Sem.run_pure]

def LkN (o : Oper) (nx nx' : Nat) : Prop := ∀ t m k, o.op = .lookup t m k false → nx' = nx

theorem oneK_ok' {C : Ctx} {o : Oper} {id : Nat} {s : S} {K : AV → S → List Nat → List Nat → Bool → Option Out} {out : Out} (hP : C.P = P) (W : WfP P) (hG : GoodG P C.G) (H : oneK C id o s K = some out) :
    ∃ v U rd wr nx' mem, K v ⟨s.e, applyU U s.h, nx'⟩ rd wr mem = some out ∧ GoodX B P o id s.nx nx' s v U rd wr ∧ LkD P o s v U rd wr ∧ LkN o s.nx nx' := by
  subst hP
  have H0 := H
  unfold oneK at H
  split at H
  · rename_i hcall
    obtain ⟨v, U, rd, wr, nx', mem, h1, h2⟩ := oneK_ok (B := B) rfl W hG H0
    refine ⟨v, U, rd, wr, nx', mem, h1, h2, ⟨fun t m k ho => ?_, fun t m k ho => ?_⟩, fun t m k ho => ?_⟩
    · unfold isCallOp at hcall; rw [ho] at hcall; cases hcall
    · unfold isCallOp at hcall; rw [ho] at hcall; cases hcall
    · unfold isCallOp at hcall; rw [ho] at hcall; cases hcall
  · have other : (∀ t m k, o.op ≠ .lookup t m k false) → (∀ t m k, o.op ≠ .mapEntry t m k) → ∃ v U rd wr nx' mem, K v ⟨s.e, applyU U s.h, nx'⟩ rd wr mem = some out ∧ GoodX B C.P o id s.nx nx' s v U rd wr ∧ LkD C.P o s v U rd wr ∧ LkN o s.nx nx' := fun n1 n2 => by
      obtain ⟨v, U, rd, wr, nx', mem, h1, h2⟩ := oneK_ok (B := B) rfl W hG H0
      exact ⟨v, U, rd, wr, nx', mem, h1, h2, ⟨fun t m k ho => absurd ho (n1 t m k), fun t m k ho => absurd ho (n2 t m k)⟩, fun t m k ho => absurd ho (n1 t m k)⟩
    unfold opK at H
    cases ho : o.op with
    | lookup t x k ok =>
      cases ok with
      | true => exact other (fun _ _ _ e => by rw [ho] at e; cases e) (fun _ _ _ e => by rw [ho] at e; cases e)
      | false =>
        rw [ho] at H
        have H1 : oLookup t x k false C.follow C.P id s (fun v s rd wr => K v s rd wr (!wr.isEmpty)) = some out := H
        unfold oLookup at H1
        split at H1
        · rename_i v u hv hu
          obtain ⟨k', e, id', ks, cl, es, clock, z, vb, av, g1, g2, g3, g4, g5, g6, g7, g8, g9⟩ := lookupK_par H1
          have hl0 := g9 s.h es clock vb.2 g4 g7 (fun v s rd wr => some (v, s, rd, wr))
          obtain ⟨v1, rd1, e1, hd⟩ := lookupK_good (B := B) (id := id) hl0
          simp only [Option.some.injEq, Prod.mk.injEq] at e1
          obtain ⟨rfl, _, rfl, _⟩ := e1
          refine ⟨v1, [], [id'], [], s.nx, _, g8, GoodX.of_good (Good.of_does (fun ρ w m R Rf => VR w m R Rf v (ρ x) ∧ VR w m R Rf u (ρ k)) (fun ρ => Instr.lookup t (ρ x) (ρ k) false) (fun ρ => by simp only [execOp, ho]) (fun ρ => hd (ρ x) (ρ k))
            fun w m R Rf ρ he => ⟨he x (by simp [ho, Op.operands, Call.operands]) _ hv, he k (by simp [ho, Op.operands, Call.operands]) _ hu⟩), ⟨fun t' m' k'' ho' => ?_, fun t' m' k'' ho' => by rw [ho] at ho'; cases ho'⟩, fun _ _ _ _ => rfl⟩
          rw [ho] at ho'; cases ho'
          exact ⟨v, u, hv, hu, hl0, rfl⟩
        · cases H1
    | mapEntry t x k =>
      rw [ho] at H
      have H1 : oMapEntry t x k C.follow C.P id s (fun v s rd wr => K v s rd wr (!wr.isEmpty)) = some out := H
      unfold oMapEntry at H1
      split at H1
      · rename_i v u hv hu
        obtain ⟨v1, U, rd, wr, e1, ⟨k', e, id', ks, cl, es, clock, z, r, g1, g2, g3, g4, g5, g6, g7, g8, g9⟩, hd⟩ := mapEntryK_good' (B := B) (id := id) H1
        refine ⟨v1, U, rd, wr, s.nx, _, e1, GoodX.of_good (Good.of_does (fun ρ w m R Rf => VR w m R Rf v (ρ x) ∧ VR w m R Rf u (ρ k)) (fun ρ => Instr.mapEntry t (ρ x) (ρ k)) (fun ρ => by simp only [execOp, ho]) (fun ρ => hd (ρ x) (ρ k))
            fun w m R Rf ρ he => ⟨he x (by simp [ho, Op.operands, Call.operands]) _ hv, he k (by simp [ho, Op.operands, Call.operands]) _ hu⟩), ⟨fun t' m' k'' ho' => (by rw [ho] at ho'; cases ho'), fun t' m' k'' ho' => ?_⟩, fun _ _ _ _ => rfl⟩
        rw [ho] at ho'; cases ho'
        exact ⟨v, u, k', e, id', ks, cl, es, clock, z, r, hv, hu, g1, g2, g3, g4, g5, g6, g7⟩
      · cases H1
    | _ => exact other (fun _ _ _ e => by rw [ho] at e; cases e) (fun _ _ _ e => by rw [ho] at e; cases e)
end Go.AM

