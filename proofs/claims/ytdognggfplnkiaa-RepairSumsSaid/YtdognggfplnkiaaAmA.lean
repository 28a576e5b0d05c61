/-
  The abstract machine and its soundness, part 1 of 3: an interpreter over lists, proved right against the model once for all programs.
-/
import Derived.Below
import Derived.Orders
import Derived.Laws.IdiomCopy
import Derived.Laws.Strings
import Derived.Laws.StructEq
set_option linter.unusedVariables false
set_option linter.unusedSimpArgs false

namespace Go.AM

/-! ### Values -/
/-- A cell: an immediate; a shared slice (fr: new memory); a shared pointer; a row (whole, or a part) of the own memory; a pointer into the own memory; a map; a function with what it captured. -/
inductive AC where
  | v (x : Value)
  | ro (fr : Bool) (es : List (List AC))
  | rp (fr : Bool) (cs : List AC) (o : Nat)
  | ref (id : Nat)
  | sub (id off len : Nat)
  | ptr (id i o : Nat)
  | mp (id : Nat)
  | fn (f : FuncId) (caps : List AC)
  deriving Inhabited

inductive AV where
  | c (x : AC)
  | agg (cs : List AC)
  | tup (vs : List AV)
  deriving Inhabited

inductive Buf where
  | obj (t : TypeId) (cs : List AC)
  | row (cl : Bool) (sz : Nat) (es : List (List AC))
  | map (cl : Bool) (es : List (List AC × List AC × Nat)) (clock : Nat)
  | gone
  deriving Inhabited

/-! ### Tables by number -/
inductive Tr (α : Type) where
  | leaf
  | node (l : Tr α) (x : Option α) (r : Tr α)

noncomputable def Tr.get {α : Type} (t : Tr α) : Nat → Option α :=
  Tr.rec (motive := fun _ => Nat → Option α) (fun _ => none)
    (fun _ x _ gl gr n => match Nat.beq n 0 with
      | true => x
      | false => match Nat.beq (Nat.mod n 2) 1 with
        | true => gl (Nat.div (Nat.sub n 1) 2)
        | false => gr (Nat.div (Nat.sub n 1) 2)) t
theorem Tr.get_leaf {α : Type} (n : Nat) : (Tr.leaf : Tr α).get n = none := rfl
theorem Tr.get_node {α : Type} (l : Tr α) (x : Option α) (r : Tr α) (n : Nat) : (Tr.node l x r).get n = match Nat.beq n 0 with
      | true => x
      | false => match Nat.beq (n % 2) 1 with
        | true => l.get ((n - 1) / 2)
        | false => r.get ((n - 1) / 2) := rfl

def Tr.setF {α : Type} : Nat → Tr α → Nat → Option α → Tr α
  | 0, t, _, _ => t
  | f + 1, .leaf, n, v => match Nat.beq n 0 with
    | true => .node .leaf v .leaf
    | false => match Nat.beq (n % 2) 1 with
      | true => .node (Tr.setF f .leaf ((n - 1) / 2) v) none .leaf
      | false => .node .leaf none (Tr.setF f .leaf ((n - 1) / 2) v)
  | f + 1, .node l x r, n, v => match Nat.beq n 0 with
    | true => .node l v r
    | false => match Nat.beq (n % 2) 1 with
      | true => .node (Tr.setF f l ((n - 1) / 2) v) x r
      | false => .node l x (Tr.setF f r ((n - 1) / 2) v)

def Tr.set {α : Type} (t : Tr α) (n : Nat) (v : α) : Tr α := t.setF (n + 1) n (some v)
def Tr.del {α : Type} (t : Tr α) (n : Nat) : Tr α := t.setF (n + 1) n none

/-- The same, with a continuation: the kernel then builds the path at once. -/
noncomputable def Tr.setK {α β : Type} (f : Nat) : Tr α → Nat → Option α → (Tr α → β) → β :=
  Nat.rec (motive := fun _ => Tr α → Nat → Option α → (Tr α → β) → β) (fun t _ _ k => k t)
    (fun _ ih t => match t with
      | .leaf => fun n v k => match Nat.beq n 0 with
        | true => k (.node .leaf v .leaf)
        | false => match Nat.beq (Nat.mod n 2) 1 with
          | true => ih .leaf (Nat.div (Nat.sub n 1) 2) v fun t => k (.node t none .leaf)
          | false => ih .leaf (Nat.div (Nat.sub n 1) 2) v fun t => k (.node .leaf none t)
      | .node l x r => fun n v k => match Nat.beq n 0 with
        | true => k (.node l v r)
        | false => match Nat.beq (Nat.mod n 2) 1 with
          | true => ih l (Nat.div (Nat.sub n 1) 2) v fun t => k (.node t x r)
          | false => ih r (Nat.div (Nat.sub n 1) 2) v fun t => k (.node l x t)) f
theorem Tr.setK_eq {α β : Type} : ∀ (f : Nat) (t : Tr α) (n : Nat) (v : Option α) (k : Tr α → β), Tr.setK f t n v k = k (Tr.setF f t n v) := by
  intro f
  induction f with
  | zero => intro t n v k; cases t <;> rfl
  | succ f ih =>
    intro t n v k
    cases t with
    | leaf =>
      show (match Nat.beq n 0 with
        | true => k (.node .leaf v .leaf)
        | false => match Nat.beq (n % 2) 1 with
          | true => Tr.setK f .leaf ((n - 1) / 2) v fun t => k (.node t none .leaf)
          | false => Tr.setK f .leaf ((n - 1) / 2) v fun t => k (.node .leaf none t)) = _
      unfold Tr.setF; cases Nat.beq n 0 <;> simp only []; cases Nat.beq (n % 2) 1 <;> simp only [ih]
    | node l x r =>
      show (match Nat.beq n 0 with
        | true => k (.node l v r)
        | false => match Nat.beq (n % 2) 1 with
          | true => Tr.setK f l ((n - 1) / 2) v fun t => k (.node t x r)
          | false => Tr.setK f r ((n - 1) / 2) v fun t => k (.node l x t)) = _
      unfold Tr.setF; cases Nat.beq n 0 <;> simp only []; cases Nat.beq (n % 2) 1 <;> simp only [ih]

theorem Tr.get_setF {α : Type} : ∀ (f : Nat) (t : Tr α) (n : Nat) (v : Option α) (m : Nat), n < f → (t.setF f n v).get m = if m = n then v else t.get m := by
  intro f
  induction f with
  | zero => intro t n v m h; omega
  | succ f ih =>
    intro t n v m h
    have key : ∀ (l : Tr α) (x : Option α) (r : Tr α),
        (match Nat.beq n 0 with
          | true => Tr.node l v r
          | false => match Nat.beq (n % 2) 1 with
            | true => Tr.node (Tr.setF f l ((n - 1) / 2) v) x r
            | false => Tr.node l x (Tr.setF f r ((n - 1) / 2) v)).get m = if m = n then v else (Tr.node l x r).get m := by
      intro l x r
      by_cases hn : n = 0
      · subst hn
        by_cases hm : m = 0
        · subst hm; simp [Tr.get_node]
        · have h0 : Nat.beq m 0 = false := by cases m with | zero => exact absurd rfl hm | succ m => rfl
          simp [Tr.get_node, h0, hm]
      · have h0 : Nat.beq n 0 = false := by cases n with | zero => exact absurd rfl hn | succ n => rfl
        rw [h0]
        have hlt : (n - 1) / 2 < f := by omega
        by_cases hp : n % 2 = 1
        · have hb : Nat.beq (n % 2) 1 = true := by rw [hp]; rfl
          rw [hb]
          by_cases hm : m = 0
          · subst hm; rw [if_neg (by omega)]; simp [Tr.get_node]
          · have hm0 : Nat.beq m 0 = false := by cases m with | zero => exact absurd rfl hm | succ m => rfl
            by_cases hmp : m % 2 = 1
            · have hmb : Nat.beq (m % 2) 1 = true := by rw [hmp]; rfl
              simp only [Tr.get_node, hm0, hmb]
              rw [ih _ _ _ _ hlt]
              by_cases e : m = n
              · subst e; simp
              · rw [if_neg e, if_neg (by omega)]
            · have hmb : Nat.beq (m % 2) 1 = false := by
                have : m % 2 = 0 := by omega
                rw [this]; rfl
              simp only [Tr.get_node, hm0, hmb]
              rw [if_neg (by intro e; subst e; exact hmp hp)]
        · have hb : Nat.beq (n % 2) 1 = false := by
            have : n % 2 = 0 := by omega
            rw [this]; rfl
          rw [hb]
          by_cases hm : m = 0
          · subst hm; rw [if_neg (by omega)]; simp [Tr.get_node]
          · have hm0 : Nat.beq m 0 = false := by cases m with | zero => exact absurd rfl hm | succ m => rfl
            by_cases hmp : m % 2 = 1
            · have hmb : Nat.beq (m % 2) 1 = true := by rw [hmp]; rfl
              simp only [Tr.get_node, hm0, hmb]
              rw [if_neg (by intro e; subst e; exact hp hmp)]
            · have hmb : Nat.beq (m % 2) 1 = false := by
                have : m % 2 = 0 := by omega
                rw [this]; rfl
              simp only [Tr.get_node, hm0, hmb]
              rw [ih _ _ _ _ hlt]
              by_cases e : m = n
              · subst e; simp
              · rw [if_neg e, if_neg (by omega)]
    cases t with
    | leaf =>
      have := key .leaf none .leaf
      have hl : (Tr.node (Tr.leaf : Tr α) none Tr.leaf).get m = (Tr.leaf : Tr α).get m := by
        simp only [Tr.get_node, Tr.get_leaf]
        cases Nat.beq m 0 <;> simp
        cases Nat.beq (m % 2) 1 <;> rfl
      rw [hl] at this
      unfold Tr.setF
      exact this
    | node l x r => unfold Tr.setF; exact key l x r

theorem Tr.get_set {α : Type} (t : Tr α) (n : Nat) (v : α) (m : Nat) : (t.set n v).get m = if m = n then some v else t.get m := Tr.get_setF _ _ _ _ _ (by omega)
theorem Tr.get_del {α : Type} (t : Tr α) (n : Nat) (m : Nat) : (t.del n).get m = if m = n then none else t.get m := Tr.get_setF _ _ _ _ _ (by omega)
theorem Tr.get_set_same {α : Type} (t : Tr α) (n : Nat) (v : α) : (t.set n v).get n = some v := by rw [Tr.get_set, if_pos rfl]
theorem Tr.get_set_ne {α : Type} (t : Tr α) {n m : Nat} (v : α) (h : m ≠ n) : (t.set n v).get m = t.get m := by rw [Tr.get_set, if_neg h]

/-! ### Forcing: the same value, reckoned at once (where the Bool says so) -/
def frcN {β : Type} : Bool → Nat → (Nat → β) → β
  | false, n, k => k n
  | true, 0, k => k 0
  | true, m + 1, k => k (m + 1)
def frcI {β : Type} : Bool → Int → (Int → β) → β
  | false, n, k => k n
  | true, .ofNat m, k => frcN true m fun m => k (.ofNat m)
  | true, .negSucc m, k => frcN true m fun m => k (.negSucc m)
def frcB {β : Type} : Bool → Bool → (Bool → β) → β
  | false, b, k => k b
  | true, true, k => k true
  | true, false, k => k false
def frcC {β : Type} (st : Bool) : AC → (AC → β) → β
  | .v (.int q n), k => frcI st n fun n => k (.v (.int q n))
  | .v (.bool b), k => frcB st b fun b => k (.v (.bool b))
  | .sub id o l, k => frcN st o fun o => frcN st l fun l => k (.sub id o l)
  | .ptr id i o, k => frcN st i fun i => frcN st o fun o => k (.ptr id i o)
  | x, k => k x
def frcCs {β : Type} (st : Bool) : List AC → (List AC → β) → β
  | [], k => k []
  | x :: r, k => frcC st x fun x => frcCs st r fun r => k (x :: r)
def frcEs {β : Type} (st : Bool) : List (List AC) → (List (List AC) → β) → β
  | [], k => k []
  | x :: r, k => frcCs st x fun x => frcEs st r fun r => k (x :: r)
def frcRo {β : Type} (st : Bool) (es : List (List AC)) (k : List (List AC) → β) : β := match st with | false => k es | true => frcEs st es k
def frcV {β : Type} (st : Bool) : AV → (AV → β) → β
  | .c (.ro fr es), k => frcRo st es fun es => k (.c (.ro fr es))
  | .c x, k => frcC st x fun x => k (.c x)
  | .agg cs, k => match st with | false => k (.agg cs) | true => frcCs st cs fun cs => k (.agg cs)
  | v, k => k v
def frcM {β : Type} : List (List AC × List AC × Nat) → (List (List AC × List AC × Nat) → β) → β
  | [], k => k []
  | (a, b, n) :: r, k => frcCs true a fun a => frcCs true b fun b => frcN true n fun n => frcM r fun r => k ((a, b, n) :: r)
def frcBuf {β : Type} (st : Bool) (b : Buf) (k : Buf → β) : β := match st with
  | false => k b
  | true => match b with
    | .obj t cs => frcCs true cs fun cs => k (.obj t cs)
    | .row cl sz es => frcB true cl fun cl => frcEs true es fun es => k (.row cl sz es)
    | .map cl es n => frcM es fun es => frcN true n fun n => k (.map cl es n)
    | .gone => k .gone
theorem frcN_eq {β : Type} (st : Bool) (n : Nat) (k : Nat → β) : frcN st n k = k n := by cases st <;> cases n <;> rfl
theorem frcI_eq {β : Type} (st : Bool) (n : Int) (k : Int → β) : frcI st n k = k n := by cases st <;> cases n <;> simp [frcI, frcN_eq]
theorem frcB_eq {β : Type} (st : Bool) (b : Bool) (k : Bool → β) : frcB st b k = k b := by cases st <;> cases b <;> rfl
theorem frcC_eq {β : Type} (st : Bool) (x : AC) (k : AC → β) : frcC st x k = k x := by
  unfold frcC
  split <;> first | rfl | simp [frcI_eq, frcB_eq, frcN_eq]
theorem frcCs_eq {β : Type} (st : Bool) : ∀ (l : List AC) (k : List AC → β), frcCs st l k = k l
  | [], k => rfl
  | x :: r, k => by simp [frcCs, frcC_eq, frcCs_eq st r]
theorem frcEs_eq {β : Type} (st : Bool) : ∀ (l : List (List AC)) (k : List (List AC) → β), frcEs st l k = k l
  | [], k => rfl
  | x :: r, k => by simp [frcEs, frcCs_eq, frcEs_eq st r]
theorem frcRo_eq {β : Type} (st : Bool) (l : List (List AC)) (k : List (List AC) → β) : frcRo st l k = k l := by cases st <;> simp [frcRo, frcEs_eq]
theorem frcV_eq {β : Type} (st : Bool) (x : AV) (k : AV → β) : frcV st x k = k x := by
  unfold frcV
  split
  · exact frcRo_eq _ _ _
  · exact frcC_eq _ _ _
  · cases st <;> simp [frcCs_eq]
  · rfl
theorem frcM_eq {β : Type} : ∀ (l : List (List AC × List AC × Nat)) (k : List (List AC × List AC × Nat) → β), frcM l k = k l
  | [], k => rfl
  | (a, b, n) :: r, k => by simp [frcM, frcCs_eq, frcN_eq, frcM_eq r]
theorem frcBuf_eq {β : Type} (st : Bool) (x : Buf) (k : Buf → β) : frcBuf st x k = k x := by
  cases st <;> cases x <;> simp [frcBuf, frcCs_eq, frcEs_eq, frcB_eq, frcM_eq, frcN_eq]
end Go.AM

namespace Go.AM
noncomputable section

def bnd {α β : Type} (x : Option α) (k : α → Option β) : Option β := match x with | some a => k a | none => none
def ite' {β : Type} (b : Bool) (x y : Option β) : Option β := match b with | true => x | false => y
def sel {α : Type} (b : Bool) (x y : α) : α := match b with | true => x | false => y

structure S where
  e : Tr AV
  h : Tr Buf
  nx : Nat

/-- A buffer is laid; one is taken away and another one laid. -/
def putH {β : Type} (st : Bool) (s : S) (id : Nat) (b : Buf) (k : S → β) : β := match s with
  | ⟨e, h, nx⟩ => frcBuf st b fun b => Tr.setK (id + 1) h id (some b) fun h => k ⟨e, h, nx⟩
def delH {β : Type} (s : S) (id : Nat) (k : S → β) : β := match s with
  | ⟨e, h, nx⟩ => Tr.setK (id + 1) h id none fun h => k ⟨e, h, nx⟩
def withH {β : Type} (s : S) (h : Tr Buf) (k : S → β) : β := match s with | ⟨e, _, nx⟩ => k ⟨e, h, nx⟩
theorem putH_eq {β : Type} (st : Bool) (s : S) (id : Nat) (b : Buf) (k : S → β) : putH st s id b k = k { s with h := s.h.set id b } := by
  cases s; simp [putH, frcBuf_eq, Tr.setK_eq, Tr.set]
theorem delH_eq {β : Type} (s : S) (id : Nat) (k : S → β) : delH s id k = k { s with h := s.h.del id } := by
  cases s; simp [delH, Tr.setK_eq, Tr.del]
theorem withH_eq {β : Type} (s : S) (h : Tr Buf) (k : S → β) : withH s h k = k { s with h := h } := by cases s; rfl

inductive Out where
  | ret (r : AV) (H : List Buf)
  | jump (k : List Item) (E : List (Nat × AV)) (H : List Buf)

/-! ### Types -/
inductive CT where
  | int (k : IntKind) | bool | str | sl (sz : Nat) | pt | mp | fn | other
  deriving DecidableEq, Inhabited

def cts (P : Program) : Nat → TypeId → List CT
  | 0, _ => [.other]
  | d + 1, t => match P.underlying t with
    | some .bool => [.bool]
    | some (.int k) => [.int k]
    | some .string => [.str]
    | some (.slice e) => [.sl (P.cellsOf e)]
    | some (.pointer _) => [.pt]
    | some (.map _ _) => [.mp]
    | some (.func _ _ _) => [.fn]
    | some (.struct fs) => fs.toList.flatMap fun f => cts P d f.type
    | some (.array n e) => (List.replicate n (cts P d e)).flatten
    | _ => [.other]

def ctsOf (P : Program) (t : TypeId) : List CT := cts P 50 t
def CT.flat : CT → Bool | .int _ | .bool | .str => true | _ => false
def flatT (P : Program) (t : TypeId) : Bool := (ctsOf P t).all CT.flat
def aggT (P : Program) (t : TypeId) : Bool := match P.underlying t with | some (.struct _) | some (.array _ _) => true | _ => false
def elemT (P : Program) (t : TypeId) : Option TypeId := match P.underlying t with | some (.slice e) => (match (P.info? e).isSome with | true => some e | false => none) | _ => none
def scalarV : Value → Bool | .agg _ | .tuple _ => false | _ => true
def zeroCs (P : Program) (t : TypeId) : Option (List AC) := match (P.info? t).bind (·.zero) with
  | some v => match v.cells.toList.all scalarV && Nat.beq v.cells.toList.length (P.cellsOf t) with
    | true => some (v.cells.toList.map .v)
    | false => none
  | none => none

/-! ### Operands and cells -/
def ofVal : Value → Option AV
  | .agg cs => match cs.toList.all scalarV with | true => some (.agg (cs.toList.map .v)) | false => none
  | .tuple _ => none
  | x => some (.c (.v x))

noncomputable def opdF : Operand → S → Option AV
  | .tmp t => fun s => s.e.get t
  | .const v => fun _ => ofVal v
  | .global _ => fun _ => none
  | .func f => fun _ => some (.c (.fn f []))
noncomputable def S.op (s : S) (x : Operand) : Option AV := opdF x s

def AV.cells : AV → Option (List AC) | .c x => some [x] | .agg cs => some cs | .tup _ => none
def ofCells (P : Program) (t : TypeId) (cs : List AC) : Option AV := match aggT P t with
  | true => some (.agg cs)
  | false => match cs with | [x] => some (.c x) | _ => none

def aInt (k : IntKind) (n : Int) : AV := .c (.v (.int k n))
def aBool (b : Bool) : AV := .c (.v (.bool b))
def aStr (s : ByteArray) : AV := .c (.v (.string s))

/-! ### Symbolic cells -/
def cInt (k : IntKind) (cs : List AC) (i : Nat) : Option Int := match cs[i]? with
  | some (.v (.int k' n)) => match decide (k' = k) with | true => some n | false => none
  | _ => none
def cBool (cs : List AC) (i : Nat) : Option Bool := match cs[i]? with | some (.v (.bool b)) => some b | _ => none
def cStr (cs : List AC) (i : Nat) : Option ByteArray := match cs[i]? with | some (.v (.string b)) => some b | _ => none
def cRo (cs : List AC) (i : Nat) : Option (List (List AC)) := match cs[i]? with
  | some (.ro _ es) => some es
  | some (.v (.slice none 0 0)) => some []
  | _ => none
def getE (es : List (List AC)) (i sz : Nat) : Option (List AC) := match es[i]? with
  | some e => match Nat.beq e.length sz with | true => some e | false => none
  | none => none

def cPt (cs : List AC) (i : Nat) : Option AC := match cs[i]? with
  | some (.v x) => some (.v x)
  | some (.rp _ ds o) => some (.rp false ds o)
  | _ => none
def castOne {β : Type} (fr : Bool) (cs : List AC) (i : Nat) (K : AC → Option β) : CT → Option β
  | .int k => bnd (cInt k cs i) fun n => K (.v (.int k n))
  | .bool => bnd (cBool cs i) fun b => K (.v (.bool b))
  | .str => bnd (cStr cs i) fun b => K (.v (.string b))
  | .sl _ => bnd (cRo cs i) fun es => K (.ro fr es)
  | _ => bnd (cPt cs i) K
def castK {β : Type} (fr : Bool) (cs : List AC) : List CT → Nat → (List AC → Option β) → Option β
  | [], _, K => K []
  | ct :: r, i, K => castOne fr cs i (fun x => castK fr cs r (i + 1) fun xs => K (x :: xs)) ct

/-! ### Strings, bytes -/
def strEq (a b : ByteArray) : Bool := a.data.toList == b.data.toList
def strCat (a b : ByteArray) : ByteArray := ⟨(a.data.toList ++ b.data.toList).toArray⟩
def strCut (s : ByteArray) (l h : Nat) : ByteArray := ⟨((s.data.toList.drop l).take (h - l)).toArray⟩
def strLen (s : ByteArray) : Nat := s.data.toList.length
def byteC (b : UInt8) : List AC := [.v (.int .u8 b.toNat)]
def bytesIn (s : ByteArray) : List (List AC) := s.data.toList.map byteC
def byteOfC : List AC → Option UInt8 | [.v (.int .u8 n)] => some (UInt8.ofNat n.toNat) | _ => none
def bytesL : List (List AC) → Option (List UInt8)
  | [] => some []
  | e :: r => match byteOfC e, bytesL r with | some b, some l => some (b :: l) | _, _ => none
def bytesOf (es : List (List AC)) : Option ByteArray := match bytesL es with | some l => some ⟨l.toArray⟩ | none => none
def strAt (s : ByteArray) (i : Nat) : Option Int := match s.data.toList[i]? with | some b => some (b.toNat : Int) | none => none

/-! ### Equality of cells -/
def eqCell : AC → AC → Option Bool
  | .v (.int k a), .v (.int k' b) => match decide (k = k') with | true => some (a == b) | false => none
  | .v (.bool a), .v (.bool b) => some (a == b)
  | .v (.string a), .v (.string b) => some (strEq a b)
  | _, _ => none
def eqCells : List AC → List AC → Option Bool
  | [], [] => some true
  | [x], [y] => eqCell x y
  | x :: xs, y :: ys => match eqCell x y, eqCells xs ys with | some p, some q => some (p && q) | _, _ => none
  | _, _ => none
/-- The kinds of a type's cells, where its equality is that of the cells, one behind the other. -/
def eqFs (rec : TypeId → Option (List CT)) (P : Program) : List Field → Nat → Option (List CT)
  | [], _ => some []
  | f :: r, off => match f.name == "_", Nat.beq f.offset off, rec f.type with
    | false, true, some l => match Nat.beq l.length (P.cellsOf f.type) && (P.info? f.type).isSome with
      | true => match eqFs rec P r (off + l.length) with | some r => some (l ++ r) | none => none
      | false => none
    | _, _, _ => none
def eqCts (P : Program) : Nat → TypeId → Option (List CT)
  | 0, _ => none
  | d + 1, t => match P.underlying t with
    | some .bool => some [.bool]
    | some (.int k) => some [.int k]
    | some .string => some [.str]
    | some (.struct fs) => match P.stoodInHeld t with | true => none | false => eqFs (eqCts P d) P fs.toList 0
    | _ => none
def fitC : CT → AC → Bool
  | .int k, .v (.int k' _) => decide (k = k')
  | .bool, .v (.bool _) => true
  | .str, .v (.string _) => true
  | _, _ => false
def fitCs : List CT → List AC → Bool
  | [], [] => true
  | t :: ts, c :: cs => fitC t c && fitCs ts cs
  | _, _ => false
def fitT (P : Program) (t : TypeId) (cs : List AC) : Bool := match eqCts P 50 t with | some tys => fitCs tys cs | none => false

/-! ### Rows -/
/-- A slice's elements; how wide they are, where that is known; whether all is new memory; what was looked at. -/
def rowOf (h : Tr Buf) : AC → Option (Bool × Option Nat × List (List AC) × List Nat)
  | .ro fr es => some (fr, none, es, [])
  | .ref id => match h.get id with | some (.row cl sz es) => some (cl, some sz, es, [id]) | _ => none
  | .sub id off len => match h.get id with | some (.row cl sz es) => some (cl, some sz, (es.drop off).take len, [id]) | _ => none
  | .v (.slice none 0 0) => some (true, none, [], [])
  | _ => none
def isV : AC → Bool | .v _ => true | _ => false
def szL (sz : Nat) (es : List (List AC)) : Bool := es.all fun e => Nat.beq e.length sz
def szCk (sz : Nat) (es : List (List AC)) : Option (List (List AC)) := match szL sz es with | true => some es | false => none
def flatL (es : List (List AC)) : Bool := es.all fun e => e.all isV
def flatCk (es : List (List AC)) : Option (List (List AC)) := match flatL es with | true => some es | false => none
def ckR (sz : Nat) (es : List (List AC)) : Option (List (List AC)) := match szL sz es && flatL es with | true => some es | false => none
/-- The elements, known to be so wide, and without shared parts where the type has none. -/
def ckK {β : Type} (flat : Bool) (sz : Nat) (fr : Bool) (osz : Option Nat) (es : List (List AC)) (K : Bool → List (List AC) → Option β) : Option β := match osz with
  | some z => match Nat.beq z sz with
    | true => match fr with
      | true => K true es
      | false => match flat with
        | true => bnd (flatCk es) fun es' => K true es'
        | false => K false es
    | false => none
  | none => match flat with
    | true => match fr with
      | true => bnd (szCk sz es) fun es' => K true es'
      | false => bnd (ckR sz es) fun es' => K true es'
    | false => bnd (szCk sz es) fun es' => K fr es'
def splice : List AC → Nat → List AC → List AC
  | c :: cs, 0, x :: xs => x :: splice cs 0 xs
  | c :: cs, o + 1, xs => c :: splice cs o xs
  | cs, _, _ => cs
/-- A cell as it lies within a row; whether it is new memory. -/
def flat1 : AC → Option (AC × Bool)
  | .v (.slice none 0 0) => some (.ro false [], true)
  | .v x => some (.v x, true)
  | .ro fr es => some (.ro false es, fr)
  | .rp fr cs o => some (.rp false cs o, fr)
  | _ => none
/-- Cells as they lie within a row: what they hold is moved; whether all is new memory; what was taken. -/
def closeCs (h : Tr Buf) : List AC → Option (List AC × Bool × List Nat × Tr Buf)
  | [] => some ([], true, [], h)
  | .ref id :: r => match h.get id with
    | some (.row cl _ es) => match closeCs (h.del id) r with | some (cs, f, ids, h') => some (.ro false es :: cs, cl && f, id :: ids, h') | none => none
    | _ => none
  | .sub id off len :: r => match h.get id with
    | some (.row cl _ es) => match closeCs (h.del id) r with
      | some (cs, f, ids, h') => some (.ro false ((es.drop off).take len) :: cs, cl && f, id :: ids, h')
      | none => none
    | _ => none
  | c :: r => match flat1 c with
    | some (d, fr) => match closeCs h r with | some (cs, f, ids, h') => some (d :: cs, fr && f, ids, h') | none => none
    | none => none
def closeK {β : Type} (h : Tr Buf) : List AC → (List AC → Bool → List Nat → Tr Buf → Option β) → Option β
  | [], k => k [] true [] h
  | .ref id :: r, k => match h.get id with
    | some (.row cl _ es) => Tr.setK (id + 1) h id none fun h => closeK h r fun cs f ids h' => k (.ro false es :: cs) (cl && f) (id :: ids) h'
    | _ => none
  | .sub id off len :: r, k => match h.get id with
    | some (.row cl _ es) => Tr.setK (id + 1) h id none fun h => closeK h r fun cs f ids h' => k (.ro false ((es.drop off).take len) :: cs) (cl && f) (id :: ids) h'
    | _ => none
  | c :: r, k => match flat1 c with
    | some (d, fr) => closeK h r fun cs f ids h' => k (d :: cs) (fr && f) ids h'
    | none => none

/-- May a slice of so many elements be grown to? -/
def fitsB (n bytes : Nat) : Bool := decide ((n + n / 4 + 1024) * bytes ≤ 281474976710656)

/-! ### The operations -/
section ops
variable {β : Type} (st : Bool) (P : Program)

abbrev IntT (β : Type) := IntKind → Int → Int → (AV → Option β) → Option β
def bAdd : IntT β := fun k a b K => K (aInt k (k.wrap (a + b)))
def bSub : IntT β := fun k a b K => K (aInt k (k.wrap (a - b)))
def bMul : IntT β := fun k a b K => K (aInt k (k.wrap (a * b)))
def bQuo : IntT β := fun k a b K => ite' (b == 0) none (K (aInt k (k.wrap (a.tdiv b))))
def bRem : IntT β := fun k a b K => ite' (b == 0) none (K (aInt k (a.tmod b)))
def bAnd : IntT β := fun k a b K => K (aInt k (k.wrap ((BitVec.ofInt k.bits a &&& BitVec.ofInt k.bits b).toNat)))
def bOr : IntT β := fun k a b K => K (aInt k (k.wrap ((BitVec.ofInt k.bits a ||| BitVec.ofInt k.bits b).toNat)))
def bXor : IntT β := fun k a b K => K (aInt k (k.wrap ((BitVec.ofInt k.bits a ^^^ BitVec.ofInt k.bits b).toNat)))
def bAndNot : IntT β := fun k a b K => K (aInt k (k.wrap ((BitVec.ofInt k.bits a &&& ~~~ BitVec.ofInt k.bits b).toNat)))
def bEql : IntT β := fun _ a b K => K (aBool (a == b))
def bNeq : IntT β := fun _ a b K => K (aBool (a != b))
def bLss : IntT β := fun _ a b K => K (aBool (decide (a < b)))
def bLeq : IntT β := fun _ a b K => K (aBool (decide (a ≤ b)))
def bGtr : IntT β := fun _ a b K => K (aBool (decide (a > b)))
def bGeq : IntT β := fun _ a b K => K (aBool (decide (a ≥ b)))
def bNone : IntT β := fun _ _ _ _ => none
def binInt : BinOp → IntT β
  | .add => bAdd | .sub => bSub | .mul => bMul | .quo => bQuo | .rem => bRem
  | .and => bAnd | .or => bOr | .xor => bXor | .andNot => bAndNot
  | .eql => bEql | .neq => bNeq | .lss => bLss | .leq => bLeq | .gtr => bGtr | .geq => bGeq
  | _ => bNone

def binShift (op : BinOp) (k : IntKind) (a b : Int) (K : AV → Option β) : Option β :=
  ite' (decide (b < 0)) none (match op with
    | .shl => K (aInt k (k.wrap (a * 2 ^ (min b.toNat k.bits))))
    | .shr => K (aInt k (a.fdiv (2 ^ (min b.toNat k.bits))))
    | _ => none)

def binStr (op : BinOp) (a b : ByteArray) (K : AV → Option β) : Option β := match op with
  | .add => ite' (decide (strLen a + strLen b ≤ 9223372036854775807)) (K (aStr (strCat a b))) none
  | .eql => K (aBool (strEq a b))
  | .neq => K (aBool (!strEq a b))
  | .lss => K (aBool (Op.bytesLess a.data.toList b.data.toList))
  | .leq => K (aBool (Op.bytesLess a.data.toList b.data.toList || strEq a b))
  | .gtr => K (aBool (!(Op.bytesLess a.data.toList b.data.toList || strEq a b)))
  | .geq => K (aBool (!Op.bytesLess a.data.toList b.data.toList))
  | _ => none

def isNilP : AC → Option Bool
  | .v (.pointer none) => some true
  | .ptr _ _ _ | .rp _ _ _ => some false
  | _ => none
def ptrT (t : TypeId) : Bool := match P.underlying t with | some (.pointer _) => true | _ => false
/-- Two pointers, of which one is nil. -/
def eqPtr (x y : AC) : Option Bool := match isNilP x, isNilP y with
  | some true, some b => some b
  | some false, some true => some false
  | _, _ => none

def eqK (neg : Bool) (t : TypeId) (x y : AV) (K : AV → Option β) : Option β := match x, y with
  | .c (.v (.bool a)), .c (.v (.bool b)) => match P.underlying t with
    | some .bool => K (aBool (sel neg (!(a == b)) (a == b)))
    | _ => none
  | .agg cs, .agg ds => match aggT P t && fitT P t cs && !P.eqGuardType P.depth t with
    | true => match eqCells cs ds with | some b => K (aBool (sel neg (!b) b)) | none => none
    | false => none
  | .c x, .c y => match ptrT P t with
    | true => match eqPtr x y with | some b => K (aBool (sel neg (!b) b)) | none => none
    | false => none
  | _, _ => none

def binK (op : BinOp) (t : TypeId) (x y : AV) (K : AV → Option β) : Option β := match x, y with
  | .c (.v (.int k a)), .c (.v (.int k' b)) => match op with
    | .shl | .shr => binShift op k a b K
    | _ => match decide (k = k') with | true => binInt op k a b K | false => none
  | .c (.v (.string a)), .c (.v (.string b)) => binStr op a b K
  | x, y => match op with
    | .eql => eqK P false t x y K
    | .neq => eqK P true t x y K
    | _ => none

def unK (op : UnOp) (x : AV) (K : AV → Option β) : Option β := match op, x with
  | .neg, .c (.v (.int k n)) => K (aInt k (k.wrap (0 - n)))
  | .xor, .c (.v (.int k n)) => K (aInt k (k.wrap ((BitVec.ofInt k.bits (if k.signed then -1 else k.max) ^^^ BitVec.ofInt k.bits n).toNat)))
  | .not, .c (.v (.bool b)) => K (aBool (!b))
  | _, _ => none

def u8T (e : TypeId) : Bool := match P.underlying e with | some (.int .u8) => true | _ => false

def convK (id : Nat) (src dst : TypeId) (x : AV) (s : S) (K : AV → S → List Nat → List Nat → Option β) : Option β :=
  match P.underlying src, P.underlying dst, x with
  | some _, some (.int k), .c (.v (.int _ n)) => K (aInt k (k.wrap n)) s [] []
  | some _, some .string, .c (.v (.string b)) => K (aStr b) s [] []
  | some .string, some (.slice e), .c (.v (.string b)) => match u8T P e && Nat.beq (P.cellsOf e) 1 with
    | true => putH st s id (.row true 1 (bytesIn b)) fun s => K (.c (.ref id)) s [] []
    | false => none
  | some (.slice e), some .string, .c x => match u8T P e with
    | true => match rowOf s.h x with
      | some (_, _, es, rd) => bnd (bytesOf es) fun b => K (aStr b) s rd []
      | none => none
    | false => none
  | _, _, _ => none

def allocK (id : Nat) (t : TypeId) (s : S) (K : AV → S → List Nat → List Nat → Option β) : Option β := match zeroCs P t with
  | some cs => putH st s id (.obj t cs) fun s => K (.c (.ptr id 0 0)) s [] []
  | none => none

def boxK (id : Nat) (t : TypeId) (x : AV) (s : S) (K : AV → S → List Nat → List Nat → Option β) : Option β := match x.cells with
  | some cs => putH st s id (.obj t cs) fun s => K (.c (.ptr id 0 0)) s [] []
  | none => none

def okT (t : TypeId) : Bool := match P.underlying t with | some _ => true | none => false
/-- The places of the parts: where, how many cells. -/
def placeOf (t : TypeId) (i : Nat) : Option (Nat × Nat) := match P.underlying t with
  | some (.struct fs) => match fs[i]? with | some f => some (f.offset, P.cellsOf f.type) | none => none
  | some (.array _ e) => some (i * P.cellsOf e, P.cellsOf e)
  | _ => none
def fillC (s : S) (place : Nat → Option (Nat × Nat)) : List (Nat × Operand) → List AC → Option (List AC)
  | [], cs => some cs
  | (i, x) :: r, cs => match place i, s.op x with
    | some (o, n), some v => match v.cells with
      | some vs => match Nat.beq vs.length n && Nat.ble (o + n) cs.length with
        | true => fillC s place r (splice cs o vs)
        | false => none
      | none => none
    | _, _ => none
/-- All parts' types are known. -/
def partsT (t : TypeId) : Bool := match P.underlying t with
  | some (.struct fs) => fs.toList.all fun f => (P.info? f.type).isSome
  | some (.array _ e) => (P.info? e).isSome
  | _ => false
def buildK (t : TypeId) (parts : List (Nat × Operand)) (s : S) (K : AV → S → List Nat → List Nat → Option β) : Option β :=
  match partsT P t, zeroCs P t with
  | true, some z => match fillC s (placeOf P t) parts z with
    | some cs => K (.agg cs) s [] []
    | none => none
  | _, _ => none

/-- The elements of a slice literal. -/
def fillR (s : S) (sz : Nat) : List (Nat × Operand) → List (List AC) → Bool → List Nat → Tr Buf → (List (List AC) → Bool → List Nat → Tr Buf → Option β) → Option β
  | [], es, f, ids, h, k => k es f ids h
  | (i, x) :: r, es, f, ids, h, k => match s.op x with
    | some v => match v.cells with
      | some vs => match Nat.beq vs.length sz && Nat.blt i es.length with
        | true => closeK h vs fun cs f' ids' h' => fillR s sz r (es.set i cs) (f && f') (ids ++ ids') h' k
        | false => none
      | none => none
    | none => none
def closeZ : List AC → List AC
  | [] => []
  | .v (.slice none 0 0) :: r => .ro false [] :: closeZ r
  | x :: r => x :: closeZ r
def buildSliceK (id : Nat) (t : TypeId) (len : Nat) (parts : List (Nat × Operand)) (s : S) (K : AV → S → List Nat → List Nat → Option β) : Option β :=
  match elemT P t with
  | some e => match zeroCs P e, Nat.ble (len * P.cellsOf e) 16777216 with
    | some z, true => fillR s (P.cellsOf e) parts (List.replicate len (closeZ z)) true [] s.h fun es f ids h => withH s h fun s => putH st s id (.row f (P.cellsOf e) es) fun s => K (.c (.ref id)) s [] ids
    | _, _ => none
  | none => none

def loadK (t : TypeId) (a : AC) (s : S) (K : AV → S → List Nat → List Nat → Option β) : Option β := match okT P t with
  | false => none
  | true => match a with
    | .ptr id i o => match s.h.get id with
      | some (.obj _ cs) => match Nat.beq i 0 && Nat.ble (o + P.cellsOf t) cs.length with
        | true => match ofCells P t ((cs.drop o).take (P.cellsOf t)) with | some v => K v s [id] [] | none => none
        | false => none
      | some (.row cl sz es) => match Nat.beq (ctsOf P t).length (P.cellsOf t) && Nat.ble (o + P.cellsOf t) sz with
        | true => bnd (getE es i sz) fun e => castK cl e (ctsOf P t) o fun cs => match ofCells P t cs with | some v => K v s [id] [] | none => none
        | false => none
      | _ => none
    | .rp fr cs o => match Nat.beq (ctsOf P t).length (P.cellsOf t) with
      | true => castK fr cs (ctsOf P t) o fun cs' => match ofCells P t cs' with | some v => K v s [] [] | none => none
      | false => none
    | _ => none

def storeK (t : TypeId) (a : AC) (x : AV) (s : S) (K : AV → S → List Nat → List Nat → Option β) : Option β := match a, x.cells with
  | .ptr id i o, some vs => match Nat.beq vs.length (P.cellsOf t) && okT P t with
    | true => match s.h.get id with
      | some (.obj t' cs) => match Nat.beq i 0 && Nat.ble (o + vs.length) cs.length with
        | true => putH st s id (.obj t' (splice cs o vs)) fun s => K (.tup []) s [] [id]
        | false => none
      | some (.row cl sz es) => match Nat.ble (o + vs.length) sz with
        | true => delH s id fun s => closeK s.h vs fun cs f ids h => bnd (getE es i sz) fun e =>
            withH s h fun s => putH st s id (.row (cl && f) sz (es.set i (splice e o cs))) fun s => K (.tup []) s [] (id :: ids)
        | false => none
      | _ => none
    | false => none
  | _, _ => none

def nilCheckK (x : AV) (K : AV → Option β) : Option β := match x with
  | .c (.ptr id i o) => K (.c (.ptr id i o))
  | .c (.rp fr cs o) => K (.c (.rp fr cs o))
  | .c (.fn f cs) => K (.c (.fn f cs))
  | _ => none

def fieldAddrK (t : TypeId) (x : AV) (f : Nat) (K : AV → Option β) : Option β := match P.underlying t with
  | some (.struct fs) => match fs[f]? with
    | some fd => match Nat.beq (P.cellsOf fd.type) 0, (P.info? fd.type).isSome, x with
      | false, true, .c (.ptr id i o) => K (.c (.ptr id i (o + fd.offset)))
      | false, true, .c (.rp fr cs o) => K (.c (.rp fr cs (o + fd.offset)))
      | _, _, _ => none
    | none => none
  | _ => none

def fieldK (t : TypeId) (x : AV) (f : Nat) (K : AV → Option β) : Option β := match P.underlying t, x with
  | some (.struct fs), .agg cs => match fs[f]? with
    | some fd => match Nat.ble (fd.offset + P.cellsOf fd.type) cs.length, okT P fd.type with
      | true, true => match ofCells P fd.type ((cs.drop fd.offset).take (P.cellsOf fd.type)) with | some v => K v | none => none
      | _, _ => none
    | none => none
  | _, _ => none

def indexAddrK (t : TypeId) (x i : AV) (s : S) (K : AV → S → List Nat → List Nat → Option β) : Option β := match elemT P t, x, i with
  | some e, .c x, .c (.v (.int _ n)) => ite' (decide (0 ≤ n)) (match x with
      | .ro fr es => bnd (getE es n.toNat (P.cellsOf e)) fun c => K (.c (.rp fr c 0)) s [] []
      | .ref id => match s.h.get id with
        | some (.row _ sz es) => match Nat.beq sz (P.cellsOf e) with
          | true => ite' (decide (n.toNat < es.length)) (K (.c (.ptr id n.toNat 0)) s [id] []) none
          | false => none
        | _ => none
      | .sub id off len => match s.h.get id with
        | some (.row _ sz es) => match Nat.beq sz (P.cellsOf e) with
          | true => ite' (decide (n.toNat < len)) (K (.c (.ptr id (off + n.toNat) 0)) s [id] []) none
          | false => none
        | _ => none
      | _ => none) none
  | _, _, _ => none

def indexK (t : TypeId) (x i : AV) (K : AV → Option β) : Option β := match P.underlying t, x, i with
  | some .string, .c (.v (.string b)), .c (.v (.int _ n)) => ite' (decide (0 ≤ n)) (bnd (strAt b n.toNat) fun c => K (aInt .u8 c)) none
  | _, _, _ => none

def boundOf (s : S) : Option Operand → Option (Option Int)
  | none => some none
  | some x => match s.op x with | some (.c (.v (.int _ n))) => some (some n) | _ => none

def cutK (n : Nat) (lo hi : Option Int) (whole : Option β) (from_ : Nat → Option β) (upto : Nat → Option β) (both : Nat → Nat → Option β) : Option β := match lo, hi with
  | none, none => whole
  | some l, none => ite' (decide (0 ≤ l)) (ite' (decide (l.toNat ≤ n)) (from_ l.toNat) none) none
  | none, some h => ite' (decide (0 ≤ h)) (ite' (decide (h.toNat ≤ n)) (upto h.toNat) none) none
  | some l, some h => ite' (decide (0 ≤ l)) (ite' (decide (l ≤ h)) (ite' (decide (h.toNat ≤ n)) (both l.toNat h.toNat) none) none) none

def sliceK (t : TypeId) (x : AV) (lo hi : Option Int) (s : S) (K : AV → S → List Nat → List Nat → Option β) : Option β := match P.underlying t, x with
  | some .string, .c (.v (.string b)) =>
    cutK (strLen b) lo hi (K (aStr b) s [] []) (fun l => K (aStr (strCut b l (strLen b))) s [] []) (fun h => K (aStr (strCut b 0 h)) s [] []) (fun l h => K (aStr (strCut b l h)) s [] [])
  | some (.slice e), .c x => match (P.info? e).isSome with
   | false => none
   | true => match x with
    | .ro fr es => match Nat.beq (P.cellsOf e) 0 with
      | true => none
      | false => bnd (szCk (P.cellsOf e) es) fun es => cutK es.length lo hi (K (.c (.ro fr es)) s [] []) (fun l => K (.c (.ro fr (es.drop l))) s [] []) (fun h => K (.c (.ro fr (es.take h))) s [] []) (fun l h => K (.c (.ro fr ((es.drop l).take (h - l)))) s [] [])
    | .ref id => match s.h.get id with
      | some (.row _ sz es) => match Nat.beq sz (P.cellsOf e) with
        | true => cutK es.length lo hi (K (.c (.ref id)) s [id] []) (fun l => K (.c (.sub id l (es.length - l))) s [id] []) (fun h => K (.c (.sub id 0 h)) s [id] []) (fun l h => K (.c (.sub id l (h - l))) s [id] [])
        | false => none
      | _ => none
    | .sub id off len => match s.h.get id with
      | some (.row _ sz es) => match Nat.beq sz (P.cellsOf e) with
        | true => cutK len lo hi (K (.c (.sub id off len)) s [id] []) (fun l => K (.c (.sub id (off + l) (len - l))) s [id] []) (fun h => K (.c (.sub id off h)) s [id] []) (fun l h => K (.c (.sub id (off + l) (h - l))) s [id] [])
        | false => none
      | _ => none
    | .v (.slice none 0 0) => cutK 0 lo hi (K (.c (.v (.slice none 0 0))) s [] []) (fun _ => K (.c (.v (.slice none 0 0))) s [] []) (fun _ => K (.c (.v (.slice none 0 0))) s [] []) (fun _ _ => K (.c (.v (.slice none 0 0))) s [] [])
    | _ => none
  | _, _ => none

def makeSliceK (id : Nat) (t : TypeId) (l c : AV) (s : S) (K : AV → S → List Nat → List Nat → Option β) : Option β := match elemT P t, l, c with
  | some e, .c (.v (.int _ l)), .c (.v (.int _ c)) => match zeroCs P e, Nat.beq (P.bytesOf e) 0 with
    | some z, false => ite' (decide (0 ≤ l)) (ite' (decide (l ≤ c)) (ite' (decide (P.bytesOf e * c ≤ 281474976710656))
        (putH st s id (.row true (P.cellsOf e) (List.replicate l.toNat (closeZ z))) fun s => K (.c (.ref id)) s [] []) none) none) none
    | _, _ => none
  | _, _, _ => none

/-- What is appended or copied. -/
def srcOf (h : Tr Buf) (t : TypeId) (x : AV) : Option (Bool × Option Nat × List (List AC) × List Nat) := match P.underlying t, x with
  | some .string, .c (.v (.string b)) => some (true, some 1, bytesIn b, [])
  | some (.slice _), .c x => rowOf h x
  | _, _ => none

/-- Elements that take room, and whose zero is known. -/
def growT (t : TypeId) : Bool := match P.info? t with
  | some i => match i.zero, Nat.beq i.bytes 0 with
    | some z, false => Nat.beq z.cells.size i.size
    | _, _ => false
  | none => false
def appendK (id : Nat) (sT xT : TypeId) (x y : AV) (s : S) (K : AV → S → List Nat → List Nat → Option β) : Option β := match elemT P sT, x, srcOf P s.h xT y with
  | some e, .c x, some (fy, oz, ys, rd) => match growT P e with
    | false => none
    | true => ckK (flatT P e) (P.cellsOf e) fy oz ys fun fy ys => match x with
      | .v (.slice none 0 0) => ite' (fitsB ys.length (P.bytesOf e)) (putH st s id (.row fy (P.cellsOf e) ys) fun s => K (.c (.ref id)) s rd []) none
      | .ref i => match s.h.get i with
        | some (.row cl sz es) => match Nat.beq sz (P.cellsOf e) with
          | true => ite' (fitsB (es.length + ys.length) (P.bytesOf e)) (delH s i fun s => putH st s id (.row (cl && fy) sz (es ++ ys)) fun s => K (.c (.ref id)) s rd [i]) none
          | false => none
        | _ => none
      | .sub i off len => match s.h.get i with
        | some (.row cl sz es) => match Nat.beq sz (P.cellsOf e) with
          | true => ite' (fitsB (len + ys.length) (P.bytesOf e)) (delH s i fun s => putH st s id (.row (cl && fy) sz ((es.drop off).take len ++ ys)) fun s => K (.c (.ref id)) s rd [i]) none
          | false => none
        | _ => none
      | _ => none
  | _, _, _ => none

def copyK (dT sT : TypeId) (x y : AV) (s : S) (K : AV → S → List Nat → List Nat → Option β) : Option β := match elemT P dT, x, srcOf P s.h sT y with
  | some e, .c x, some (fy, oz, ys, rd) => ckK (flatT P e) (P.cellsOf e) fy oz ys fun fy ys => match x with
      | .ref i => match s.h.get i with
        | some (.row cl sz es) => match Nat.beq sz (P.cellsOf e) with
          | true => putH st s i (.row (cl && fy) sz (ys.take es.length ++ es.drop ys.length)) fun s => K (aInt .i64 (min ys.length es.length : Nat)) s rd [i]
          | false => none
        | _ => none
      | .sub i off len => match s.h.get i with
        | some (.row cl sz es) => match Nat.beq sz (P.cellsOf e) with
          | true => ite' (decide (off + len ≤ es.length)) (putH st s i (.row (cl && fy) sz (es.take off ++ (ys.take len ++ es.drop (off + min ys.length len)))) fun s => K (aInt .i64 (min ys.length len : Nat)) s rd [i]) none
          | false => none
        | _ => none
      | _ => none
  | _, _, _ => none

def clearK (t : TypeId) (x : AV) (s : S) (K : AV → S → List Nat → List Nat → Option β) : Option β := match elemT P t, x with
  | some e, .c x => match zeroCs P e with
    | some z => match x with
      | .ref i => match s.h.get i with
        | some (.row cl sz es) => match Nat.beq sz (P.cellsOf e) with
          | true => putH st s i (.row cl sz (List.replicate es.length (closeZ z))) fun s => K (.tup []) s [] [i]
          | false => none
        | _ => none
      | .sub i off len => match s.h.get i with
        | some (.row cl sz es) => match Nat.beq sz (P.cellsOf e) with
          | true => ite' (decide (off + len ≤ es.length)) (putH st s i (.row cl sz (es.take off ++ (List.replicate len (closeZ z) ++ es.drop (off + len)))) fun s => K (.tup []) s [] [i]) none
          | false => none
        | _ => none
      | .v (.slice none 0 0) => K (.tup []) s [] []
      | _ => none
    | none => none
  | _, _ => none

def lenK (t : TypeId) (x : AV) (s : S) (K : AV → S → List Nat → List Nat → Option β) : Option β := match P.underlying t, x with
  | some .string, .c (.v (.string b)) => K (aInt .i64 (strLen b : Nat)) s [] []
  | some (.slice _), .c x => match x with
    | .sub id off len => match s.h.get id with | some (.row _ _ _) => K (aInt .i64 (len : Nat)) s [id] [] | _ => none
    | x => match rowOf s.h x with
      | some (_, _, es, rd) => K (aInt .i64 (es.length : Nat)) s rd []
      | none => none
  | some (.map _ _), .c (.mp id) => match s.h.get id with | some (.map _ es _) => K (aInt .i64 (es.length : Nat)) s [id] [] | _ => none
  | _, _ => none

def foldInts (mx : Bool) : List AV → IntKind → Int → Option (IntKind × Int)
  | [], k, n => some (k, n)
  | .c (.v (.int k' m)) :: r, k, n => match decide (k = k') with
    | true => foldInts mx r k (sel mx (if m > n then m else n) (if m < n then m else n))
    | false => none
  | _ :: _, _, _ => none
def minMaxK (mx : Bool) (xs : List AV) (K : AV → Option β) : Option β := match xs with
  | .c (.v (.int k n)) :: r => match foldInts mx r k n with | some (k, n) => K (aInt k n) | none => none
  | _ => none

def selK (b : Bool) (x y : AV) (K : AV → Option β) : Option β := match x, y with
  | .c (.v (.bool p)), .c (.v (.bool q)) => K (aBool (sel b p q))
  | .c (.v (.int k p)), .c (.v (.int k' q)) => match decide (k = k') with | true => K (aInt k (sel b p q)) | false => none
  | x, y => ite' b (K x) (K y)

def opsOf (s : S) : List Operand → Option (List AV)
  | [] => some []
  | x :: r => match s.op x, opsOf s r with | some v, some l => some (v :: l) | _, _ => none
def capsOf : List AV → Option (List AC)
  | [] => some []
  | .c x :: r => match capsOf r with | some l => some (x :: l) | none => none
  | _ :: _ => none

/-! Maps: a key's cells; the first entry that has it. -/
def mfind (key : List AC) : List (List AC × List AC × Nat) → Nat → Option (Option (Nat × List AC × Nat))
  | [], _ => some none
  | (k, v, born) :: r, i => match eqCells key k with
    | some true => some (some (i, v, born))
    | some false => mfind key r (i + 1)
    | none => none
def mlook (es : List (List AC × List AC × Nat)) (key zero : List AC) : Option (List AC × Bool) := match mfind key es 0 with
  | some (some (_, v, _)) => some (v, true)
  | some none => some (zero, false)
  | none => none
def mset (es : List (List AC × List AC × Nat)) (clock : Nat) (key val : List AC) : Option (List (List AC × List AC × Nat) × Nat) := match mfind key es 0 with
  | some (some (i, _, born)) => some (es.set i (key, val, born), clock)
  | some none => some (es ++ [(key, val, clock)], clock + 1)
  | none => none
def ment (es : List (List AC × List AC × Nat)) (clock : Nat) (key zero : List AC) : Option (List (List AC × List AC × Nat) × Nat × List AC × Nat) := match mfind key es 0 with
  | some (some (i, v, born)) => some (es.set i (key, v, born), clock, v, born)
  | some none => some (es ++ [(key, zero, clock)], clock + 1, zero, clock)
  | none => none
def mborn (born : Int) : List (List AC × List AC × Nat) → Nat → Option Nat
  | [], _ => none
  | (_, _, b) :: r, i => match (b : Int) == born with | true => some i | false => mborn born r (i + 1)
def mput (es : List (List AC × List AC × Nat)) (born : Int) (val : List AC) : Option (List (List AC × List AC × Nat)) := match mborn born es 0 with
  | some i => match es[i]? with | some (k, _, b) => some (es.set i (k, val, b)) | none => none
  | none => none
def AV.cellsM : AV → Option (List AC) | .c x => some [x] | .agg cs => (match Nat.beq cs.length 1 with | true => none | false => some cs) | .tup _ => none
/-- Of one cell: no struct and no array. -/
def oneT (t : TypeId) : Bool := match aggT P t with | true => !Nat.beq (P.cellsOf t) 1 | false => Nat.beq (P.cellsOf t) 1
/-- The zero is a struct's just where the type is one. -/
def zeroShape (t : TypeId) : Bool := match (P.info? t).bind (·.zero) with
  | some (.agg _) => aggT P t
  | some _ => !aggT P t
  | none => false
def mapT (t : TypeId) : Option (TypeId × TypeId) := match P.underlying t with | some (.map k e) => (match oneT P k && oneT P e && zeroShape P e with | true => some (k, e) | false => none) | _ => none
def keyT (k : TypeId) (ks : List AC) : Bool := fitT P k ks && Nat.beq ks.length (P.cellsOf k)
def lookupK (t : TypeId) (x key : AV) (ok : Bool) (s : S) (K : AV → S → List Nat → List Nat → Option β) : Option β := match mapT P t, x, key.cellsM with
  | some (k, e), .c (.mp id), some ks => match s.h.get id, zeroCs P e with
    | some (.map cl es _), some z => match keyT P k ks && flatT P e && Nat.beq (ctsOf P e).length (P.cellsOf e) with
      | true => bnd (mlook es ks z) fun vb => match Nat.beq vb.1.length (P.cellsOf e) with
        | true => castK cl vb.1 (ctsOf P e) 0 fun cs => match ofCells P e cs with
          | some v => K (match ok with | true => .tup [v, aBool vb.2] | false => v) s [id] []
          | none => none
        | false => none
      | false => none
    | _, _ => none
  | _, _, _ => none
def mapUpdateK (t : TypeId) (x key val : AV) (s : S) (K : AV → S → List Nat → List Nat → Option β) : Option β := match mapT P t, x, key.cellsM, val.cellsM with
  | some (k, e), .c (.mp id), some ks, some vs => match s.h.get id with
    | some (.map cl es clock) => match keyT P k ks && vs.all isV && Nat.beq vs.length (P.cellsOf e) with
      | true => bnd (mset es clock ks vs) fun r => putH st s id (.map cl r.1 r.2) fun s => K (.tup []) s [] [id]
      | false => none
    | _ => none
  | _, _, _, _ => none
def mapEntryK (t : TypeId) (x key : AV) (s : S) (K : AV → S → List Nat → List Nat → Option β) : Option β := match mapT P t, x, key.cellsM with
  | some (k, e), .c (.mp id), some ks => match s.h.get id, zeroCs P e with
    | some (.map cl es clock), some z => match keyT P k ks && flatT P e && Nat.beq (ctsOf P e).length (P.cellsOf e) with
      | true => bnd (ment es clock ks z) fun r => match Nat.beq r.2.2.1.length (P.cellsOf e) with
        | true => castK cl r.2.2.1 (ctsOf P e) 0 fun cs => match ofCells P e cs with
          | some v => putH st s id (.map cl r.1 r.2.1) fun s => K (.tup [v, aInt .i64 (r.2.2.2 : Nat)]) s [] [id]
          | none => none
        | false => none
      | false => none
    | _, _ => none
  | _, _, _ => none
def entryStoreK (x sm val : AV) (s : S) (K : AV → S → List Nat → List Nat → Option β) : Option β := match x, sm, val.cellsM with
  | .c (.mp id), .c (.v (.int _ n)), some vs => match s.h.get id with
    | some (.map cl es clock) => match vs.all isV with
      | true => bnd (mput es n vs) fun es' => putH st s id (.map cl es' clock) fun s => K (.tup []) s [] [id]
      | false => none
    | _ => none
  | _, _, _ => none

def builtinK (id : Nat) (b : Builtin) (ts : List TypeId) (xs : List AV) (s : S) (K : AV → S → List Nat → List Nat → Option β) : Option β := match b, ts, xs with
  | .len, [t], [x] => lenK P t x s K
  | .append, [t, u], [x, y] => appendK st P id t u x y s K
  | .copy, [t, u], [x, y] => copyK st P t u x y s K
  | .clear, [t], [x] => clearK st P t x s K
  | .max, _, xs => minMaxK true xs fun v => K v s [] []
  | .min, _, xs => minMaxK false xs fun v => K v s [] []
  | _, _, _ => none

abbrev KT (β : Type) := AV → S → List Nat → List Nat → Option β
abbrev OpT (β : Type) := Bool → Program → Nat → S → KT β → Option β
def oMove (x : Operand) : OpT β := fun _ _ _ s K => match s.op x with | some v => K v s [] [] | none => none
def oPick (c a b : Operand) : OpT β := fun _ _ _ s K => match s.op c with
  | some (.c (.v (.bool q))) => match s.op a, s.op b with
    | some x, some y => selK q x y fun v => K v s [] []
    | _, _ => none
  | _ => none
def oAlloc (t : TypeId) : OpT β := fun st P id s K => allocK st P id t s K
def oBox (t : TypeId) (x : Operand) : OpT β := fun st _ id s K => match s.op x with | some v => boxK st id t v s K | none => none
def oBuild (t : TypeId) (ps : Array (Nat × Operand)) : OpT β := fun _ P _ s K => buildK P t ps.toList s K
def oBuildSlice (t : TypeId) (n : Nat) (ps : Array (Nat × Operand)) : OpT β := fun st P id s K => buildSliceK st P id t n ps.toList s K
def oLoad (t : TypeId) (a : Operand) : OpT β := fun _ P _ s K => match s.op a with | some (.c x) => loadK P t x s K | _ => none
def oStore (t : TypeId) (a x : Operand) : OpT β := fun st P _ s K => match s.op a, s.op x with | some (.c p), some v => storeK st P t p v s K | _, _ => none
def oNilCheck (x : Operand) : OpT β := fun _ _ _ s K => match s.op x with | some v => nilCheckK v fun v => K v s [] [] | none => none
def oBin (op : BinOp) (t : TypeId) (x y : Operand) : OpT β := fun _ P _ s K => match s.op x, s.op y with | some v, some u => binK P op t v u fun r => K r s [] [] | _, _ => none
def oUn (op : UnOp) (x : Operand) : OpT β := fun _ _ _ s K => match s.op x with | some v => unK op v fun r => K r s [] [] | none => none
def oConv (a b : TypeId) (x : Operand) : OpT β := fun st P id s K => match s.op x with | some v => convK st P id a b v s K | none => none
def oFunc (f : FuncId) (first caps : Array Operand) : OpT β := fun _ _ _ s K => match first.toList, opsOf s caps.toList with
    | [], some vs => match capsOf vs with | some cs => K (.c (.fn f cs)) s [] [] | none => none
    | _, _ => none
def oMakeMap : OpT β := fun st _ id s K => putH st s id (.map true [] 0) fun s => K (.c (.mp id)) s [] []
def oMakeSlice (t : TypeId) (l c : Operand) : OpT β := fun st P id s K => match s.op l, s.op c with | some v, some u => makeSliceK st P id t v u s K | _, _ => none
def oSlice (t : TypeId) (x : Operand) (lo hi : Option Operand) : OpT β := fun _ P _ s K => match s.op x, boundOf s lo, boundOf s hi with | some v, some l, some h => sliceK P t v l h s K | _, _, _ => none
def oFieldAddr (t : TypeId) (x : Operand) (f : Nat) : OpT β := fun _ P _ s K => match s.op x with | some v => fieldAddrK P t v f fun r => K r s [] [] | none => none
def oField (t : TypeId) (x : Operand) (f : Nat) : OpT β := fun _ P _ s K => match s.op x with | some v => fieldK P t v f fun r => K r s [] [] | none => none
def oIndexAddr (t : TypeId) (x i : Operand) : OpT β := fun _ P _ s K => match s.op x, s.op i with | some v, some u => indexAddrK P t v u s K | _, _ => none
def oIndex (t : TypeId) (x i : Operand) : OpT β := fun _ P _ s K => match s.op x, s.op i with | some v, some u => indexK P t v u fun r => K r s [] [] | _, _ => none
def oLookup (t : TypeId) (x i : Operand) (ok : Bool) : OpT β := fun _ P _ s K => match s.op x, s.op i with | some v, some u => lookupK P t v u ok s K | _, _ => none
def oMapUpdate (t : TypeId) (m k x : Operand) : OpT β := fun st P _ s K => match s.op m, s.op k, s.op x with | some v, some u, some y => mapUpdateK st P t v u y s K | _, _, _ => none
def oMapEntry (t : TypeId) (m k : Operand) : OpT β := fun st P _ s K => match s.op m, s.op k with | some v, some u => mapEntryK st P t v u s K | _, _ => none
def oEntryStore (m sm x : Operand) : OpT β := fun st _ _ s K => match s.op m, s.op sm, s.op x with | some v, some u, some y => entryStoreK st v u y s K | _, _, _ => none
def oExtract (t : Operand) (ix : Nat) : OpT β := fun _ _ _ s K => match s.op t with
    | some (.tup vs) => match vs[ix]? with | some v => K v s [] [] | none => none
    | _ => none
def oBuiltin (b : Builtin) (args : Array Operand) (ts : Array TypeId) : OpT β := fun st P id s K => match opsOf s args.toList with | some xs => builtinK st P id b ts.toList xs s K | none => none
def oNone : OpT β := fun _ _ _ _ _ => none
def oCallee (args : Array Operand) (ts : Array TypeId) : Callee → OpT β
  | .builtin b => oBuiltin b args ts
  | _ => oNone
def oSlice3 (t : TypeId) (x : Operand) (lo hi : Option Operand) : Option Operand → OpT β
  | none => oSlice t x lo hi
  | some _ => oNone
def oFn (first caps : Array Operand) : Fn → OpT β
  | .func f => oFunc f first caps
  | _ => oNone
def oMap0 : Option Operand → OpT β
  | none => oMakeMap
  | some _ => oNone
/-- An operation that is no call of a function. -/
def opF : Op → OpT β
  | .move x => oMove x
  | .assign x => oMove x
  | .pick c a b => oPick c a b
  | .alloc t => oAlloc t
  | .box t x => oBox t x
  | .build t ps => oBuild t ps
  | .buildSlice t n ps => oBuildSlice t n ps
  | .load t a => oLoad t a
  | .store t a x => oStore t a x
  | .nilCheck x => oNilCheck x
  | .binOp op t x y _ => oBin op t x y
  | .unOp op _ x => oUn op x
  | .convert a b x => oConv a b x
  | .makeFunc f first caps => oFn first caps f
  | .makeMap _ r => oMap0 r
  | .makeSlice t l c => oMakeSlice t l c
  | .slice t x lo hi mx => oSlice3 t x lo hi mx
  | .fieldAddr t x f => oFieldAddr t x f
  | .field t x f => oField t x f
  | .indexAddr t x i => oIndexAddr t x i
  | .index t x i => oIndex t x i
  | .lookup t x i ok => oLookup t x i ok
  | .mapUpdate t m k x => oMapUpdate t m k x
  | .mapEntry t m k => oMapEntry t m k
  | .entryStore _ m sm x => oEntryStore m sm x
  | .extract t ix => oExtract t ix
  | .call c => oCallee c.args c.argTypes c.callee
  | _ => oNone
def opK (st : Bool) (P : Program) (id : Nat) (o : Oper) (s : S) (K : KT β) : Option β := opF o.op st P id s K
end ops
end
end Go.AM

namespace Go.AM
noncomputable section

structure Ctx where
  P : Program
  G : FuncId → List AV → List Buf → (AV → List Buf → Option Out) → Option Out
  md : FuncId → List Bool
  live : Nat → List (Nat × Option Nat)
  cuts : List Nat
  follow : Bool
  fn : Func
  p : Nat

/-! ### What is reached, and other numbers for it -/
def reach (h : Tr Buf) : Nat → List AC → List Nat → List Nat
  | 0, _, vs => vs
  | _ + 1, [], vs => vs
  | n + 1, c :: r, vs => match c with
    | .ref id => match vs.contains id with | true => reach h n r vs | false => reach h n r (vs ++ [id])
    | .sub id _ _ => match vs.contains id with | true => reach h n r vs | false => reach h n r (vs ++ [id])
    | .mp id => match vs.contains id with | true => reach h n r vs | false => reach h n r (vs ++ [id])
    | .ptr id _ _ => match vs.contains id with
      | true => reach h n r vs
      | false => match h.get id with
        | some (.obj _ cs) => reach h n (cs ++ r) (vs ++ [id])
        | _ => reach h n r (vs ++ [id])
    | .fn _ caps => reach h n (caps ++ r) vs
    | _ => reach h n r vs

def posOf : List Nat → Nat → Nat → Option Nat
  | [], _, _ => none
  | x :: r, id, i => match Nat.beq x id with | true => some i | false => posOf r id (i + 1)

mutual
def renC (ρ : Nat → Option Nat) : AC → Option AC
  | .v x => some (.v x)
  | .ro fr es => some (.ro fr es)
  | .rp fr cs o => some (.rp fr cs o)
  | .ref id => match ρ id with | some j => some (.ref j) | none => none
  | .sub id off len => match ρ id with | some j => some (.sub j off len) | none => none
  | .ptr id i o => match ρ id with | some j => some (.ptr j i o) | none => none
  | .mp id => match ρ id with | some j => some (.mp j) | none => none
  | .fn f caps => match renL ρ caps with | some cs => some (.fn f cs) | none => none
def renL (ρ : Nat → Option Nat) : List AC → Option (List AC)
  | [] => some []
  | c :: r => match renC ρ c, renL ρ r with | some d, some l => some (d :: l) | _, _ => none
end
mutual
def renV (ρ : Nat → Option Nat) : AV → Option AV
  | .c x => match renC ρ x with | some y => some (.c y) | none => none
  | .agg cs => match renL ρ cs with | some ds => some (.agg ds) | none => none
  | .tup vs => match renVs ρ vs with | some us => some (.tup us) | none => none
def renVs (ρ : Nat → Option Nat) : List AV → Option (List AV)
  | [] => some []
  | v :: r => match renV ρ v, renVs ρ r with | some d, some l => some (d :: l) | _, _ => none
end
def renB (ρ : Nat → Option Nat) : Buf → Option Buf
  | .obj t cs => match renL ρ cs with | some ds => some (.obj t ds) | none => none
  | b => some b
def isObj : Buf → Bool | .obj _ _ => true | _ => false
/-- The buffers of these numbers, renamed. -/
def takeB (h : Tr Buf) (ρ : Nat → Option Nat) : List Nat → Option (List Buf)
  | [] => some []
  | id :: r => match h.get id with
    | some b => match renB ρ b, takeB h ρ r with | some b', some l => some (b' :: l) | _, _ => none
    | none => match takeB h ρ r with | some l => some (.gone :: l) | none => none
mutual
def cellsV : AV → List AC
  | .c x => [x]
  | .agg cs => cs
  | .tup vs => cellsVs vs
def cellsVs : List AV → List AC
  | [] => []
  | v :: r => cellsV v ++ cellsVs r
end

/-! ### A nil slice as an empty row -/
def normCs : List CT → List AC → Nat → Tr Buf → List AC × Nat × Tr Buf
  | .sl sz :: ts, .v (.slice none 0 0) :: r, nx, h => match normCs ts r (nx + 1) (h.set nx (.row true sz [])) with | (cs, n, h') => (.ref nx :: cs, n, h')
  | _ :: ts, c :: r, nx, h => match normCs ts r nx h with | (cs, n, h') => (c :: cs, n, h')
  | _, cs, nx, h => (cs, nx, h)
def normH (P : Program) : List Nat → Nat → Tr Buf → Nat × Tr Buf
  | [], nx, h => (nx, h)
  | id :: r, nx, h => match h.get id with
    | some (.obj t cs) => match normCs (ctsOf P t) cs nx h with | (cs', n, h') => normH P r n (h'.set id (.obj t cs'))
    | _ => normH P r nx h
mutual
def normV (P : Program) : TypeId → AV → Nat → Tr Buf → AV × Nat × Tr Buf
  | t, .c x, nx, h => match normCs (ctsOf P t) [x] nx h with
    | ([y], n, h') => (.c y, n, h')
    | _ => (.c x, nx, h)
  | t, .agg cs, nx, h => match normCs (ctsOf P t) cs nx h with | (ds, n, h') => (.agg ds, n, h')
  | _, .tup vs, nx, h => (.tup vs, nx, h)
end
def normVs (P : Program) : List TypeId → List AV → Nat → Tr Buf → List AV × Nat × Tr Buf
  | t :: ts, v :: r, nx, h => match normV P t v nx h with
    | (u, n, h') => match normVs P ts r n h' with | (us, n', h'') => (u :: us, n', h'')
  | _, vs, nx, h => (vs, nx, h)

/-! ### Views: what is handed to be read alone -/
mutual
def snapC (h : Tr Buf) : Nat → AC → Option (AC × List Nat)
  | 0, _ => none
  | _ + 1, .v (.slice none 0 0) => some (.ro false [], [])
  | _ + 1, .v x => some (.v x, [])
  | _ + 1, .ro _ es => some (.ro false es, [])
  | _ + 1, .rp _ cs o => some (.rp false cs o, [])
  | _ + 1, .ref id => match h.get id with | some (.row _ _ es) => some (.ro false es, [id]) | _ => none
  | _ + 1, .sub id off len => match h.get id with | some (.row _ _ es) => some (.ro false ((es.drop off).take len), [id]) | _ => none
  | n + 1, .ptr id i o => match h.get id with
    | some (.obj _ cs) => match Nat.beq i 0 with
      | true => match snapL h n cs with | some (ds, ids) => some (.rp false ds o, id :: ids) | none => none
      | false => none
    | _ => none
  | n + 1, .fn f caps => match snapL h n caps with | some (ds, ids) => some (.fn f ds, ids) | none => none
  | _ + 1, .mp _ => none
def snapL (h : Tr Buf) : Nat → List AC → Option (List AC × List Nat)
  | 0, _ => none
  | _ + 1, [] => some ([], [])
  | n + 1, c :: r => match snapC h n c, snapL h n r with | some (d, a), some (l, b) => some (d :: l, a ++ b) | _, _ => none
end
def snapV (h : Tr Buf) : AV → Option (AV × List Nat)
  | .c x => match snapC h 1000 x with | some (y, ids) => some (.c y, ids) | none => none
  | .agg cs => match snapL h 1000 cs with | some (ds, ids) => some (.agg ds, ids) | none => none
  | .tup _ => none

/-- The arguments: those to be read alone as views (and what they look at), the others as they are. -/
def splitA (h : Tr Buf) : List AV → List Bool → Option (List AV × List Nat)
  | [], _ => some ([], [])
  | v :: r, ms => match ms.headD false with
    | true => match splitA h r ms.tail with | some (l, ids) => some (v :: l, ids) | none => none
    | false => match snapV h v, splitA h r ms.tail with | some (u, a), some (l, b) => some (u :: l, a ++ b) | _, _ => none
/-- The cells of the arguments that are handed over. -/
def mutCs : List Bool → List AV → List AC
  | _, [] => []
  | true :: ms, v :: r => cellsV v ++ mutCs ms r
  | ms, _ :: r => mutCs ms.tail r

/-! ### Is it new memory? -/
mutual
def cleanC : AC → Bool
  | .ro fr _ => fr
  | .rp fr _ _ => fr
  | .fn _ caps => cleanL caps
  | _ => true
def cleanL : List AC → Bool
  | [] => true
  | c :: r => cleanC c && cleanL r
end
def cleanB : Buf → Bool
  | .obj _ cs => cleanL cs
  | .row cl _ _ => cl
  | .map cl _ _ => cl
  | .gone => true
/-- The rows that the arguments name themselves. -/
def dirL : List AC → List Nat → List Nat
  | [], vs => vs
  | .ref id :: r, vs => match vs.contains id with | true => dirL r vs | false => dirL r (vs ++ [id])
  | .sub id _ _ :: r, vs => match vs.contains id with | true => dirL r vs | false => dirL r (vs ++ [id])
  | _ :: r, vs => dirL r vs
def directs : List Bool → List AV → List Nat → List Nat
  | _, [], vs => vs
  | true :: ms, v :: r, vs => directs ms r (dirL (cellsV v) vs)
  | ms, _ :: r, vs => directs ms.tail r vs
def lead : List Buf → Nat
  | .obj _ _ :: r => lead r + 1
  | _ => 0
/-- How many of the buffers handed in keep their numbers: the objects, and the rows that the arguments name themselves. -/
def pinL : List AC → Nat → Nat
  | [], p => p
  | .ref id :: r, p => pinL r (max p (id + 1))
  | .sub id _ _ :: r, p => pinL r (max p (id + 1))
  | _ :: r, p => pinL r p
def pinOf : List AV → Nat → Nat
  | [], p => p
  | v :: r, p => pinOf r (pinL (cellsV v) p)
def delAll (h : Tr Buf) : List Nat → Tr Buf
  | [] => h
  | id :: r => delAll (h.del id) r

/-- Where a buffer of the callee's lies behind the call: the objects handed in stay; all else is new. -/
def backN (objs : List Nat) (nx : Nat) (q : Nat) : Nat := match objs[q]? with | some id => id | none => nx + (q - objs.length)
/-- The callee's buffers, laid into the caller's memory. -/
def layB (ρ : Nat → Option Nat) (objs : List Nat) (nx : Nat) : Nat → List Buf → Tr Buf → Option (Tr Buf)
  | _, [], h => some h
  | q, b :: r, h => match renB ρ b with
    | some b' => layB ρ objs nx (q + 1) r (h.set (backN objs nx q) b')
    | none => none

def hdT : List Bool → List TypeId → Option TypeId
  | true :: _, t :: _ => some t
  | _, _ => none
def normM (P : Program) : List AV → List Bool → List TypeId → Nat → Tr Buf → List AV × Nat × Tr Buf
  | [], _, _, nx, h => ([], nx, h)
  | v :: r, ms, ts, nx, h => match hdT ms ts with
    | some t => match normV P t v nx h with
      | (u, n, h') => match normM P r ms.tail ts.tail n h' with | (us, n', h'') => (u :: us, n', h'')
    | none => match normM P r ms.tail ts.tail nx h with | (us, n', h'') => (v :: us, n', h'')

/-- A call: the arguments are split, what is handed over is numbered anew, and laid back. -/
def layK {β : Type} (st : Bool) (ρ : Nat → Option Nat) (objs : List Nat) (nx : Nat) : Nat → List Buf → Tr Buf → (Tr Buf → Option β) → Option β
  | _, [], h, k => k h
  | q, b :: r, h, k => match renB ρ b with
    | some b' => frcBuf st b' fun b' => Tr.setK (backN objs nx q + 1) h (backN objs nx q) (some b') fun h => layK st ρ objs nx (q + 1) r h k
    | none => none
def delAllK {β : Type} (h : Tr Buf) : List Nat → (Tr Buf → β) → β
  | [], k => k h
  | id :: r, k => Tr.setK (id + 1) h id none fun h => delAllK h r k

def nodupN : List Nat → Bool
  | [] => true
  | x :: r => !r.contains x && nodupN r

def callK {β : Type} (st : Bool) (P : Program) (md : FuncId → List Bool) (G : FuncId → List AV → List Buf → (AV → List Buf → Option β) → Option β)
    (f : FuncId) (xs : List AV) (s : S) (K : AV → S → List Nat → List Nat → Option β) : Option β :=
  match P.funcs[f]? with
  | some fn => match fn.body.isSome with
    | true => match normM P xs (md f) fn.params.toList s.nx s.h with
      | (ys, nx₁, h₁) =>
        let tou := reach h₁ 100000 (mutCs (md f) ys) []
        match normH P tou nx₁ h₁ with
        | (nx₂, h₂) =>
          match splitA h₂ ys (md f) with
          | some (zs, seen) =>
            let ids := reach h₂ 100000 (mutCs (md f) ys) []
            let dirs := directs (md f) ys []
            let objs := (ids.filter fun id => match h₂.get id with | some b => isObj b | none => false) ++ dirs
            let rest := ids.filter fun id => match h₂.get id with | some b => !isObj b && !dirs.contains id | none => !dirs.contains id
            let all := objs ++ rest
            match renVs (fun id => posOf all id 0) zs, takeB h₂ (fun id => posOf all id 0) all with
            | some args, some H => match (seen.any fun id => all.contains id) || !Nat.beq (pinOf args (lead H)) objs.length || !(nodupN all && all.all fun id => Nat.blt id nx₂) with
              | true => none
              | false => G f args H fun r H' =>
                let ρ := fun q => match Nat.blt q H'.length with | true => some (backN objs nx₂ q) | false => none
                match renV ρ r with
                | some v => delAllK h₂ all fun h₂' => layK st ρ objs nx₂ 0 H' h₂' fun h₃ => frcN st (nx₂ + H'.length) fun nx₃ =>
                  match s with
                  | ⟨e, _, _⟩ => match cleanL (cellsV r) && H'.all cleanB with
                    | true => K v ⟨e, h₃, nx₃⟩ seen (tou ++ all)
                    | false => delAllK h₃ seen fun h₃ => K v ⟨e, h₃, nx₃⟩ [] (seen ++ (tou ++ all))
                | none => none
            | _, _ => none
          | none => none
    | false => none
  | none => none
end
end Go.AM

namespace Go.AM
noncomputable section

def setD (dst : Option Tmp) (v : AV) (s : S) : S := match dst with | some d => { s with e := s.e.set d v } | none => s
def setDK {β : Type} (st : Bool) (dst : Option Tmp) (v : AV) (s : S) (k : S → β) : β := match s with
  | ⟨e, h, nx⟩ => match dst with
    | some d => frcV st v fun v => Tr.setK (d + 1) e d (some v) fun e => k ⟨e, h, nx⟩
    | none => k ⟨e, h, nx⟩
theorem setDK_eq {β : Type} (st : Bool) (dst : Option Tmp) (v : AV) (s : S) (k : S → β) : setDK st dst v s k = k (setD dst v s) := by
  cases s; cases dst <;> simp [setDK, setD, frcV_eq, Tr.setK_eq, Tr.set]

/-- What an operation did in a region that draws its order. -/
structure FT where
  looks : List Tmp
  dst : Option Tmp
  rd : List Nat
  wr : List Nat
  mem : Bool       -- it writes memory, or calls
  bit : Nat        -- the operations that come before it
  lk : Option (TypeId × Operand × Operand)   -- a lookup of this map at this key
  me : Option (TypeId × Operand × Operand)   -- the entry of this map at this key

def tmpsOf (xs : List Operand) : List Tmp := match xs with
  | [] => []
  | .tmp t :: r => t :: tmpsOf r
  | _ :: r => tmpsOf r
def looksOf (ops : Array Oper) (o : Oper) : List Tmp := o.looksAt ops

def disj (a b : List Nat) : Bool := a.all fun x => !b.contains x
/-- Two operations of which neither comes before the other: they do not meet. -/
def apartD (x y : FT) : Bool :=
  (match x.dst with | some d => !y.looks.contains d && !(y.dst == some d) | none => true) &&
  (match y.dst with | some d => !x.looks.contains d | none => true) &&
  !(x.mem && y.mem) && disj x.wr y.wr && disj x.wr y.rd
def apartF (x y : FT) : Bool := apartD x y && disj y.wr x.rd
/-- A lookup, and the entry of the same map at the same key: the entry changes nothing of what is looked up. -/
def tmpEq : Operand → Operand → Bool
  | .tmp a, .tmp b => Nat.beq a b
  | _, _ => false
def sameTMK (a b : TypeId × Operand × Operand) : Bool := Nat.beq a.1 b.1 && tmpEq a.2.1 b.2.1 && tmpEq a.2.2 b.2.2
def sameO : Option (TypeId × Operand × Operand) → Option (TypeId × Operand × Operand) → Bool
  | none, _ => false
  | some a, b => b.any (sameTMK a)
def sameME (x y : FT) : Bool := sameO x.lk y.me
def apartM (x y : FT) : Bool := apartD x y && sameME x y
def lkOf (o : Oper) : Option (TypeId × Operand × Operand) := match o.op with
  | .lookup t m k ok => match ok with | false => some (t, m, k) | true => none
  | _ => none
def meOf (o : Oper) : Option (TypeId × Operand × Operand) := match o.op with
  | .mapEntry t m k => some (t, m, k)
  | _ => none
def countME : List (Nat × FT) → Nat
  | [] => 0
  | (_, x) :: r => match x.me with | some _ => countME r + 1 | none => countME r
def compat (u : Bool) : List (Nat × FT) → Bool
  | [] => true
  | (_, x) :: r => (r.all fun (j, y) => x.bit.testBit j || apartF y x || (apartM y x && u)) && compat u r

def dstOf (ops : Array Oper) (j : Nat) : Option Tmp := match ops[j]? with | some o => o.dst | none => none

section
variable (C : Ctx)

/-- Is it a call of a function? -/
def calleeOf (s : S) (o : Oper) : Option (FuncId × List AV) := match o.op with
  | .call { callee := .value f, args, .. } => match s.op f, opsOf s args.toList with
    | some (.c (.fn g caps)), some xs => some (g, xs ++ caps.map .c)
    | _, _ => none
  | _ => none
def isCallOp (o : Oper) : Bool := match o.op with | .call { callee := .value _, .. } => true | _ => false
/-- Does it make a new buffer of the own number? -/
def oneK (id : Nat) (o : Oper) (s : S) (K : AV → S → List Nat → List Nat → Bool → Option Out) : Option Out := match isCallOp o with
  | true => match calleeOf s o with
    | some (g, xs) => callK C.follow C.P C.md C.G g xs s fun v s rd wr => K v s rd wr true
    | none => none
  | false => opK C.follow C.P id o s fun v s rd wr => K v s rd wr (!wr.isEmpty)

abbrev RegT := Nat → Nat → S → List (Nat × FT) → (S → List (Nat × FT) → Option Out) → Option Out
/-- The numbers of what an op made: its own, and those that a call gave. -/
def madeN (own lo hi : Nat) (wr : List Nat) : List Nat := own :: (match Nat.beq lo hi with | true => wr | false => List.range' lo (hi - lo) ++ wr)
def goOp (ops : Array Oper) (bits : List Nat) (o : Oper) (ih : RegT) (i base : Nat) (fts : List (Nat × FT)) (K : S → List (Nat × FT) → Option Out) (s : S) : Option Out :=
  oneK C (Nat.add base i) o s fun v s' rd wr mem => setDK C.follow o.dst v s' fun s'' => ih (Nat.succ i) base s'' ((i, ⟨o.looksAt ops, o.dst, rd, madeN (Nat.add base i) s.nx s'.nx wr, mem, bits.getD i 0, lkOf o, meOf o⟩) :: fts) K
def noOp (ops : Array Oper) (bits : List Nat) (o : Oper) (ih : RegT) (i base : Nat) (fts : List (Nat × FT)) (K : S → List (Nat × FT) → Option Out) (s : S) : Option Out :=
  setDK C.follow o.dst (.tup []) s fun s => ih (Nat.succ i) base s ((i, ⟨o.looksAt ops, o.dst, [], [], false, bits.getD i 0, none, none⟩) :: fts) K
def guardK (ops : Array Oper) (go no : S → Option Out) : Option (Nat × Bool) → S → Option Out
  | none => go
  | some (j, want) => fun s => match dstOf ops j with
    | some d => match s.e.get d with
      | some (.c (.v (.bool b))) => ite' b (setDK C.follow (some d) (aBool true) s (match want with | true => go | false => no))
          (setDK C.follow (some d) (aBool false) s (match want with | true => no | false => go))
      | some (.tup []) => no s
      | _ => none
    | none => none
def regK (ops : Array Oper) (bits : List Nat) (l : List Oper) : RegT :=
  List.rec (motive := fun _ => RegT) (fun _ _ s fts K => K s fts)
    (fun o _ ih i base s fts K => guardK C ops (goOp C ops bits o ih i base fts K) (noOp C ops bits o ih i base fts K) o.guard s) l

def regionK (ops : Array Oper) (draw : Bool) (s : S) (K : S → Option Out) : Option Out :=
  match s with
  | ⟨e, h, nx⟩ => frcN C.follow (nx + ops.toList.length) fun nx' => match draw with
    | false => regK C ops [] ops.toList 0 nx ⟨e, h, nx'⟩ [] fun s _ => K s
    | true => regK C ops (Region.before ops).toList ops.toList 0 nx ⟨e, h, nx'⟩ [] fun s fts => match compat (Nat.ble (countME fts) 1) fts with | true => K s | false => none

/-! ### Jumps and returns -/
def labC : Code → Nat
  | .region id _ _ => id
  | .seq a b => match a with | .skip => labC b | _ => labC a
  | .cond _ t _ => labC t
  | .block _ c => labC c
  | .loop c => labC c
  | _ => 0

def liveE (e : Tr AV) : List (Nat × Option Nat) → Nat → Tr Buf → Option (List (Nat × AV) × Nat × Tr Buf)
  | [], nx, h => some ([], nx, h)
  | (t, sz) :: r, nx, h => match e.get t with
    | some v => match v, sz with
      | .c (.v (.slice none 0 0)), some sz => match liveE e r (nx + 1) (h.set nx (.row true sz [])) with
        | some (l, n, h') => some ((t, .c (.ref nx)) :: l, n, h')
        | none => none
      | v, _ => match liveE e r nx h with
        | some (l, n, h') => some ((t, v) :: l, n, h')
        | none => none
    | none => none
def renE (ρ : Nat → Option Nat) : List (Nat × AV) → Option (List (Nat × AV))
  | [] => some []
  | (t, v) :: r => match renV ρ v, renE ρ r with | some u, some l => some ((t, u) :: l) | _, _ => none
def objCs (h : Tr Buf) : Nat → List AC
  | 0 => []
  | n + 1 => objCs h n ++ (match h.get n with | some (.obj _ cs) => cs | _ => [])
def upTo (n : Nat) : List Nat := List.range n

def jumpK (lab : Nat) (items : List Item) (s : S) : Option Out :=
  match liveE s.e (C.live lab) s.nx s.h with
  | some (E, nx₁, h₁) =>
    match normH C.P (reach h₁ 100000 (objCs h₁ C.p ++ cellsVs (E.map (·.2))) (upTo C.p)) nx₁ h₁ with
    | (nx₂, h₂) =>
      let ids := reach h₂ 100000 (objCs h₂ C.p ++ cellsVs (E.map (·.2))) (upTo C.p)
      match renE (fun id => posOf ids id 0) E, takeB h₂ (fun id => posOf ids id 0) ids, nodupN ids with
      | some E', some H, true => some (.jump items E' H)
      | _, _, _ => none
  | none => none

def resultsA (s : S) : List ResultVar → Option (List AV)
  | [] => some []
  | .tmp t :: r => match s.e.get t, resultsA s r with | some v, some l => some (v :: l) | _, _ => none
  | .cell a t :: r => match s.e.get a with
    | some (.c (.ptr id i o)) => match s.h.get id, resultsA s r with
      | some (.obj _ cs), some l => match Nat.beq i 0 && Nat.ble (o + C.P.cellsOf t) cs.length && okT C.P t with
        | true => match ofCells C.P t ((cs.drop o).take (C.P.cellsOf t)) with | some v => some (v :: l) | none => none
        | false => none
      | _, _ => none
    | _ => none

def retK (s : S) : Option Out :=
  match resultsA C s C.fn.results.toList with
  | some vs => match normVs C.P C.fn.resultTypes.toList vs s.nx s.h with
    | (vs, nx₁, h₁) => match normH C.P (reach h₁ 100000 (objCs h₁ C.p ++ cellsVs vs) (upTo C.p)) nx₁ h₁ with
      | (nx₂, h₂) =>
        let ids := reach h₂ 100000 (objCs h₂ C.p ++ cellsVs vs) (upTo C.p)
        match renVs (fun id => posOf ids id 0) vs, takeB h₂ (fun id => posOf ids id 0) ids, nodupN ids with
        | some vs', some H, true => some (.ret (match vs' with | [v] => v | vs' => .tup vs') H)
        | _, _, _ => none
  | none => none

abbrev RunT := Bool → List Item → S → Option Out
abbrev ItT := Ctx → RunT → Bool → List Item → S → Option Out
def iLoop (c : Code) : ItT := fun C run _ k s => match C.follow with
  | true => run false (.code c :: .inLoop c :: k) s
  | false => jumpK C (labC c) (.code c :: .inLoop c :: k) s
def iPop : ItT := fun _ run _ k s => run false k s
def iSkip : ItT := fun _ run first k s => run first k s
def iSeq (a b : Code) : ItT := fun _ run first k s => run first (.code a :: .code b :: k) s
def iCond (c : Operand) (t e : Code) : ItT := fun _ run _ k s => match s.op c with
  | some (.c (.v (.bool b))) => ite' b (run false (.code t :: k) s) (run false (.code e :: k) s)
  | _ => none
def iBlock (id : Nat) (c : Code) : ItT := fun _ run first k s => run first (.code c :: .inBlock id :: k) s
def iScope (c : Code) : ItT := fun _ run first k s => run first (.code c :: .inScope c :: k) s
def iExit (id : Nat) : ItT := fun _ run _ k s => match exitTo id k with | some k' => run false k' s | none => none
def iRet : ItT := fun C _ _ _ s => retK C s
def iRegion (id : Nat) (ops : Array Oper) (dr : Bool) : ItT := fun C run first k s => match !first && C.cuts.contains id with
  | true => jumpK C (id + 100000) (.code (.region id ops dr) :: k) s
  | false => regionK C ops dr s (run false k)
def iNone : ItT := fun _ _ _ _ _ => none
def codeF : Code → ItT
  | .skip => iSkip
  | .label _ => iSkip
  | .seq a b => iSeq a b
  | .cond c t e => iCond c t e
  | .block id c => iBlock id c
  | .loop c => iLoop c
  | .scope c => iScope c
  | .exit id => iExit id
  | .ret => iRet
  | .region id ops dr => iRegion id ops dr
  | _ => iNone
def itemF : Item → ItT
  | .inBlock _ => iPop
  | .inScope _ => iPop
  | .inLoop c => iLoop c
  | .code cd => codeF cd
  | _ => iNone
def run (n : Nat) : RunT :=
  Nat.rec (motive := fun _ => RunT) (fun _ _ _ => none)
    (fun _ ih first l s => match l with
      | [] => retK C s
      | it :: k => itemF it C ih first k s) n
end

def startE : List (Nat × AV) → Tr AV → Tr AV
  | [], e => e
  | (t, v) :: r, e => startE r (e.set t v)
def startH : List Buf → Nat → Tr Buf → Tr Buf
  | [], _, h => h
  | b :: r, i, h => startH r (i + 1) (h.set i b)
def startS (E : List (Nat × AV)) (H : List Buf) : S := { e := startE E .leaf, h := startH H 0 .leaf, nx := H.length }
def argsE : List AV → Nat → List (Nat × AV)
  | [], _ => []
  | v :: r, i => (i, v) :: argsE r (i + 1)

def noObj (H : List Buf) : Bool := H.all fun b => !isObj b

/-- The whole program, run on the abstract machine: for closed sentences. -/
def exec (P : Program) (md : FuncId → List Bool) : Nat → FuncId → List AV → List Buf → Option (AV × List Buf)
  | 0, _, _, _ => none
  | n + 1, f, args, H => match P.funcs[f]? with
    | some fn => match fn.body, noObj (H.drop (lead H)) with
      | some c, true =>
        match run { P, G := fun f a H K => match exec P md n f a H with | some (r, H') => K r H' | none => none, md, live := fun _ => [], cuts := [], follow := true, fn, p := pinOf args (lead H) }
          1000000 true [.code c] (startS (argsE args 0) H) with
        | some (.ret r H') => some (r, H')
        | _ => none
      | _, _ => none
    | none => none
end
end Go.AM

namespace Go.AM
open Go.RowKit

/-! ### What the machine's memory means -/
inductive Loc where
  | nil
  | row (b base sz n : Nat)
  | obj (b base : Nat)
  | map (b : Nat)

def Loc.blk : Loc → Option Nat | .nil => none | .row b _ _ _ => some b | .obj b _ => some b | .map b => some b

abbrev Lm := Nat → Option Loc
abbrev Bs := Nat → Prop

inductive Fa {α β : Type} (r : α → β → Prop) : List α → List β → Prop where
  | nil : Fa r [] []
  | cons {a : α} {b : β} {x : List α} {y : List β} : r a b → Fa r x y → Fa r (a :: x) (b :: y)

theorem Fa.length {α β : Type} {r : α → β → Prop} {x : List α} {y : List β} (h : Fa r x y) : x.length = y.length := by
  induction h with | nil => rfl | cons _ _ ih => simp [ih]
theorem Fa.mono {α β : Type} {r s : α → β → Prop} (hrs : ∀ a b, r a b → s a b) {x : List α} {y : List β} (h : Fa r x y) : Fa s x y := by
  induction h with | nil => exact .nil | cons h _ ih => exact .cons (hrs _ _ h) ih
theorem Fa.get {α β : Type} {r : α → β → Prop} {x : List α} {y : List β} (h : Fa r x y) : ∀ (k : Nat) (a : α), x[k]? = some a → ∃ b, y[k]? = some b ∧ r a b := by
  induction h with
  | nil => intro k a hk; simp at hk
  | cons h _ ih =>
    intro k a hk
    cases k with
    | zero => simp at hk; subst hk; exact ⟨_, rfl, h⟩
    | succ k => simp at hk ⊢; exact ih k a hk
theorem Fa.of_get {α β : Type} {r : α → β → Prop} : ∀ {x : List α} {y : List β}, x.length = y.length → (∀ (k : Nat) (a : α) (b : β), x[k]? = some a → y[k]? = some b → r a b) → Fa r x y
  | [], [], _, _ => .nil
  | [], _ :: _, h, _ => by simp at h
  | _ :: _, [], h, _ => by simp at h
  | a :: x, b :: y, h, hk => .cons (hk 0 a b rfl rfl) (Fa.of_get (by simpa using h) fun k a b h1 h2 => hk (k + 1) a b (by simpa using h1) (by simpa using h2))
theorem Fa.append {α β : Type} {r : α → β → Prop} {x x' : List α} {y y' : List β} (h : Fa r x y) (h' : Fa r x' y') : Fa r (x ++ x') (y ++ y') := by
  induction h with | nil => exact h' | cons h _ ih => exact .cons h ih
theorem Fa.drop {α β : Type} {r : α → β → Prop} {x : List α} {y : List β} (h : Fa r x y) (n : Nat) : Fa r (x.drop n) (y.drop n) := by
  induction h generalizing n with
  | nil => simp; exact .nil
  | cons h _ ih => cases n with | zero => exact .cons h (by simpa using ih 0) | succ n => simpa using ih n
theorem Fa.take {α β : Type} {r : α → β → Prop} {x : List α} {y : List β} (h : Fa r x y) (n : Nat) : Fa r (x.take n) (y.take n) := by
  induction h generalizing n with
  | nil => simp; exact .nil
  | cons h _ ih => cases n with | zero => simp; exact .nil | succ n => simp; exact .cons h (ih n)
theorem Fa.mem {α β : Type} {r : α → β → Prop} {x : List α} {y : List β} (h : Fa r x y) : ∀ b ∈ y, ∃ a ∈ x, r a b := by
  induction h with
  | nil => intro b hb; simp at hb
  | cons h _ ih =>
    intro b hb
    rcases List.mem_cons.1 hb with rfl | hb
    · exact ⟨_, List.mem_cons_self, h⟩
    · obtain ⟨a, ha, hr⟩ := ih b hb; exact ⟨a, List.mem_cons_of_mem _ ha, hr⟩

def noL : Lm := fun _ => none

/-- A cell of the machine, and the model's value in world w: m: where the buffers lie; R: blocks of shared memory; Rf: those of them that are new. -/
inductive CR (w : World) : Lm → Bs → Bs → AC → Value → Prop where
  | v {m : Lm} {R Rf : Bs} {x : Value} : scalarV x = true → CR w m R Rf (.v x) x
  | ro0 {m : Lm} {R Rf : Bs} {fr : Bool} {A : Option Addr} {cap : Nat} : CR w m R Rf (.ro fr []) (.slice A 0 cap)
  | ro {m : Lm} {R Rf : Bs} {fr : Bool} {es : List (List AC)} {b o cap sz : Nat} (vs : Nat → Nat → Value) :
      sel fr Rf R b → es.length ≤ cap → (∀ e ∈ es, e.length = sz) →
      (∀ (i : Nat) (e : List AC), es[i]? = some e → ∀ k, k < sz → w.cell? ⟨b, o + i * sz + k, none⟩ = some (vs i k)) →
      (∀ (i : Nat) (e : List AC), es[i]? = some e → ∀ (k : Nat) (x : AC), e[k]? = some x → CR w noL (sel fr Rf R) (sel fr Rf R) x (vs i k)) →
      CR w m R Rf (.ro fr es) (.slice (some ⟨b, o, none⟩) es.length cap)
  | rp {m : Lm} {R Rf : Bs} {fr : Bool} {cs : List AC} {b o off : Nat} (vs : Nat → Value) :
      sel fr Rf R b → (∀ k, k < cs.length → w.cell? ⟨b, o + k, none⟩ = some (vs k)) →
      (∀ (k : Nat) (x : AC), cs[k]? = some x → CR w noL (sel fr Rf R) (sel fr Rf R) x (vs k)) →
      CR w m R Rf (.rp fr cs off) (.pointer (some ⟨b, o + off, none⟩))
  | ref0 {m : Lm} {R Rf : Bs} {id : Nat} : m id = some .nil → CR w m R Rf (.ref id) (.slice none 0 0)
  | ref {m : Lm} {R Rf : Bs} {id b base sz n cap N : Nat} {t : TypeId} : m id = some (.row b base sz n) → n ≤ cap → w.shape? b = some (t, N) → base + cap * sz ≤ N →
      CR w m R Rf (.ref id) (.slice (some ⟨b, base, none⟩) n cap)
  | sub0 {m : Lm} {R Rf : Bs} {id : Nat} : m id = some .nil → CR w m R Rf (.sub id 0 0) (.slice none 0 0)
  | subE {m : Lm} {R Rf : Bs} {id off b base sz n o N : Nat} {t : TypeId} : m id = some (.row b base sz n) → off ≤ n → w.shape? b = some (t, N) → o ≤ N → CR w m R Rf (.sub id off 0) (.slice (some ⟨b, o, none⟩) 0 0)
  | sub {m : Lm} {R Rf : Bs} {id off len b base sz n cap N : Nat} {t : TypeId} : m id = some (.row b base sz n) → off + len ≤ n → len ≤ cap → w.shape? b = some (t, N) → base + (off + cap) * sz ≤ N →
      CR w m R Rf (.sub id off len) (.slice (some ⟨b, base + off * sz, none⟩) len cap)
  | ptrR {m : Lm} {R Rf : Bs} {id i o b base sz n : Nat} : m id = some (.row b base sz n) → i < n → CR w m R Rf (.ptr id i o) (.pointer (some ⟨b, base + i * sz + o, none⟩))
  | ptrO {m : Lm} {R Rf : Bs} {id o b base : Nat} : m id = some (.obj b base) → CR w m R Rf (.ptr id 0 o) (.pointer (some ⟨b, base + o, none⟩))
  | mp {m : Lm} {R Rf : Bs} {id b : Nat} : m id = some (.map b) → CR w m R Rf (.mp id) (.map (some b))
  | fn {m : Lm} {R Rf : Bs} {f : FuncId} {caps : List AC} (vals : Array Value) : caps.length = vals.size →
      (∀ (k : Nat) (x : AC) (u : Value), caps[k]? = some x → vals[k]? = some u → CR w m R Rf x u) → CR w m R Rf (.fn f caps) (.func (.func f) #[] vals)

theorem CR.scalar {w : World} {m : Lm} {R Rf : Bs} {x : AC} {v : Value} (h : CR w m R Rf x v) : scalarV v = true := by cases h <;> first | rfl | assumption

/-- What keeps the meaning of cells. -/
structure Ext (w w' : World) (m m' : Lm) (R R' Rf Rf' : Bs) : Prop where
  ro : ∀ b, R b → w'.heap[b]? = w.heap[b]?
  inR : ∀ b, R b → R' b
  inF : ∀ b, Rf b → Rf' b
  sub : ∀ b, Rf b → R b
  m : ∀ id l, m id = some l → m' id = some l
  sh : ∀ b t n, w.shape? b = some (t, n) → w'.shape? b = some (t, n)

theorem cell_of {w w' : World} {b : Nat} (h : w'.heap[b]? = w.heap[b]?) (o : Nat) : w'.cell? ⟨b, o, none⟩ = w.cell? ⟨b, o, none⟩ := by simp [World.cell?, h]

theorem Ext.refl (w : World) (m : Lm) (R Rf : Bs) (h : ∀ b, Rf b → R b) : Ext w w m m R R Rf Rf := ⟨fun _ _ => rfl, fun _ => id, fun _ => id, h, fun _ _ => id, fun _ _ _ => id⟩
theorem Ext.trans {w w' w'' : World} {m m' m'' : Lm} {R R' R'' Rf Rf' Rf'' : Bs} (h : Ext w w' m m' R R' Rf Rf') (k : Ext w' w'' m' m'' R' R'' Rf' Rf'') : Ext w w'' m m'' R R'' Rf Rf'' :=
  ⟨fun b hb => (k.ro b (h.inR b hb)).trans (h.ro b hb), fun b hb => k.inR b (h.inR b hb), fun b hb => k.inF b (h.inF b hb), h.sub, fun i l hl => k.m i l (h.m i l hl), fun b t n hs => k.sh b t n (h.sh b t n hs)⟩

theorem CR.mono {w w' : World} {m : Lm} {R Rf : Bs} {x : AC} {v : Value} (h : CR w m R Rf x v) :
    ∀ {m' : Lm} {R' Rf' : Bs}, Ext w w' m m' R R' Rf Rf' → CR w' m' R' Rf' x v := by
  induction h with
  | v hs => intro m' R' Rf' E; exact .v hs
  | ro0 => intro m' R' Rf' E; exact .ro0
  | @ro m R Rf fr es b o cap sz vs hb hc hsz h1 h2 ih =>
    intro m' R' Rf' E
    have hbR : R b := by cases fr <;> first | exact hb | exact E.sub b hb
    have E2 : Ext w w' noL noL (sel fr Rf R) (sel fr Rf' R') (sel fr Rf R) (sel fr Rf' R') := by
      refine ⟨fun b hb => ?_, fun b hb => ?_, fun b hb => ?_, fun _ => id, fun i l hl => hl, E.sh⟩
      · cases fr <;> first | exact E.ro b hb | exact E.ro b (E.sub b hb)
      · cases fr <;> first | exact E.inR b hb | exact E.inF b hb
      · cases fr <;> first | exact E.inR b hb | exact E.inF b hb
    refine .ro vs (E2.inR b hb) hc hsz (fun i e he k hk => ?_) (fun i e he k x hx => ih i e he k x hx E2)
    rw [cell_of (E.ro b hbR)]; exact h1 i e he k hk
  | @rp m R Rf fr cs b o off vs hb h1 h2 ih =>
    intro m' R' Rf' E
    have hbR : R b := by cases fr <;> first | exact hb | exact E.sub b hb
    have E2 : Ext w w' noL noL (sel fr Rf R) (sel fr Rf' R') (sel fr Rf R) (sel fr Rf' R') := by
      refine ⟨fun b hb => ?_, fun b hb => ?_, fun b hb => ?_, fun _ => id, fun i l hl => hl, E.sh⟩
      · cases fr <;> first | exact E.ro b hb | exact E.ro b (E.sub b hb)
      · cases fr <;> first | exact E.inR b hb | exact E.inF b hb
      · cases fr <;> first | exact E.inR b hb | exact E.inF b hb
    refine .rp vs (E2.inR b hb) (fun k hk => ?_) (fun k x hx => ih k x hx E2)
    rw [cell_of (E.ro b hbR)]; exact h1 k hk
  | ref0 h => intro m' R' Rf' E; exact .ref0 (E.m _ _ h)
  | ref h hn hs hc => intro m' R' Rf' E; exact .ref (E.m _ _ h) hn (E.sh _ _ _ hs) hc
  | sub0 h => intro m' R' Rf' E; exact .sub0 (E.m _ _ h)
  | subE h hn hs ho => intro m' R' Rf' E; exact .subE (E.m _ _ h) hn (E.sh _ _ _ hs) ho
  | sub h hn hl hs hc => intro m' R' Rf' E; exact .sub (E.m _ _ h) hn hl (E.sh _ _ _ hs) hc
  | ptrR h hi => intro m' R' Rf' E; exact .ptrR (E.m _ _ h) hi
  | ptrO h => intro m' R' Rf' E; exact .ptrO (E.m _ _ h)
  | mp h => intro m' R' Rf' E; exact .mp (E.m _ _ h)
  | fn vals hl h ih => intro m' R' Rf' E; exact .fn vals hl fun k x u hx hu => ih k x u hx hu E

/-- A value. -/
inductive VR (w : World) (m : Lm) (R Rf : Bs) : AV → Value → Prop where
  | c {x : AC} {v : Value} : CR w m R Rf x v → VR w m R Rf (.c x) v
  | agg {cs : List AC} (arr : Array Value) : Fa (CR w m R Rf) cs arr.toList → VR w m R Rf (.agg cs) (.agg arr)
  | tup {vs : List AV} (arr : Array Value) : vs.length = arr.size → (∀ (k : Nat) (x : AV) (u : Value), vs[k]? = some x → arr[k]? = some u → VR w m R Rf x u) → VR w m R Rf (.tup vs) (.tuple arr)

theorem VR.mono {w w' : World} {m m' : Lm} {R R' Rf Rf' : Bs} (E : Ext w w' m m' R R' Rf Rf') {x : AV} {v : Value} (h : VR w m R Rf x v) : VR w' m' R' Rf' x v := by
  induction h with
  | c h => exact .c (h.mono E)
  | agg arr h => exact .agg arr (h.mono fun _ _ h => h.mono E)
  | tup arr hl h ih => exact .tup arr hl ih

theorem VR.undef {w : World} {m : Lm} {R Rf : Bs} : VR w m R Rf (.tup []) undef := .tup #[] rfl (fun k x u hx => by simp at hx)

theorem VR.cells {w : World} {m : Lm} {R Rf : Bs} {x : AV} {v : Value} (h : VR w m R Rf x v) {cs : List AC} (hc : x.cells = some cs) : Fa (CR w m R Rf) cs v.cells.toList := by
  cases h with
  | c h =>
    simp only [AV.cells, Option.some.injEq] at hc; subst hc
    have hs := h.scalar
    have : v.cells = #[v] := by cases v <;> first | rfl | simp [scalarV] at hs
    rw [this]; exact .cons h .nil
  | agg arr h => simp only [AV.cells, Option.some.injEq] at hc; subst hc; exact h
  | tup arr hl h => simp [AV.cells] at hc

/-! ### Buffers -/
/-- The block's cells may be written. -/
def Wr (w : World) (b N : Nat) : Prop := ∃ c t fr, w.heap[b]? = some (.cells c t fr) ∧ c.size = N ∧ ∀ o, o < N → w.frozen? ⟨b, o, none⟩ = false

/-- Cells from a place on. -/
def CsAt (w : World) (m : Lm) (R Rf : Bs) (b o : Nat) (cs : List AC) : Prop := ∀ (k : Nat) (x : AC), cs[k]? = some x → ∃ u, w.cell? ⟨b, o + k, none⟩ = some u ∧ CR w m R Rf x u
def EsAt (w : World) (R : Bs) (b o sz : Nat) (es : List (List AC)) : Prop := ∀ (i : Nat) (e : List AC), es[i]? = some e → CsAt w noL R R b (o + i * sz) e

/-- A map's key or value: immediates. -/
def KV (cs : List AC) (v : Value) : Prop := (cs = [.v v] ∧ scalarV v = true) ∨ (cs.length ≠ 1 ∧ ∃ arr, v = .agg arr ∧ Fa (fun x u => x = .v u ∧ scalarV u = true) cs arr.toList)

def BR (w : World) (m : Lm) (R Rf : Bs) (id : Nat) : Buf → Prop
  | .gone => True
  | .obj _ cs => ∃ b base N, m id = some (.obj b base) ∧ Wr w b N ∧ base + cs.length ≤ N ∧ CsAt w m R Rf b base cs
  | .row cl sz es => (es = [] ∧ m id = some .nil) ∨
      ∃ b base N, m id = some (.row b base sz es.length) ∧ Wr w b N ∧ base + es.length * sz ≤ N ∧ (∀ e ∈ es, e.length = sz) ∧ EsAt w (sel cl Rf R) b base sz es
  | .map _ es clock => ∃ b ents, m id = some (.map b) ∧ w.heap[b]? = some (.map ents clock) ∧
      Fa (fun (x : List AC × List AC × Nat) (e : MapEntry) => KV x.1 e.key ∧ KV x.2.1 e.val ∧ e.born = x.2.2) es ents.toList

structure Base where
  w0 : World
  F0 : Bs
  R0 : Bs
  Rf0 : Bs
  m0 : Lm
  p : Nat

def blk (m : Lm) (id : Nat) : Option Nat := (m id).bind Loc.blk
def live (h : Tr Buf) (id : Nat) : Prop := ∃ x, h.get id = some x ∧ x ≠ .gone

structure Inv (B : Base) (w : World) (m : Lm) (R Rf : Bs) (h : Tr Buf) : Prop where
  br : ∀ id x, h.get id = some x → BR w m R Rf id x
  uniq : ∀ i j k, live h i → live h j → blk m i = some k → blk m j = some k → i = j
  dis : ∀ i k, live h i → blk m i = some k → ¬ R k
  sub : ∀ k, Rf k → R k
  rlt : ∀ k, R k → k < w.heap.size
  blt : ∀ i k, blk m i = some k → k < w.heap.size
  frame : ∀ k, k < B.w0.heap.size → ¬ B.F0 k → w.heap[k]? = B.w0.heap[k]?
  size : B.w0.heap.size ≤ w.heap.size
  os : w.os = B.w0.os
  tape : w.tape = B.w0.tape
  output : w.output = B.w0.output
  own : ∀ i k, live h i → blk m i = some k → B.F0 k ∨ B.w0.heap.size ≤ k
  rin : ∀ k, R k → B.R0 k ∨ B.F0 k ∨ B.w0.heap.size ≤ k
  rfin : ∀ k, Rf k → B.Rf0 k ∨ B.F0 k ∨ B.w0.heap.size ≤ k
  pin : ∀ i, i < B.p → m i = B.m0 i

theorem CsAt.mono {w w' : World} {m m' : Lm} {R R' Rf Rf' : Bs} (E : Ext w w' m m' R R' Rf Rf') {b o : Nat} {cs : List AC} (hb : w'.heap[b]? = w.heap[b]?) (h : CsAt w m R Rf b o cs) : CsAt w' m' R' Rf' b o cs :=
  fun k x hx => let ⟨u, hu, hr⟩ := h k x hx; ⟨u, by rw [cell_of hb]; exact hu, hr.mono E⟩
theorem Ext.sel {w w' : World} {m m' : Lm} {R R' Rf Rf' : Bs} (E : Ext w w' m m' R R' Rf Rf') (cl : Bool) : Ext w w' noL noL (sel cl Rf R) (sel cl Rf' R') (sel cl Rf R) (sel cl Rf' R') := by
  refine ⟨fun b hb => ?_, fun b hb => ?_, fun b hb => ?_, fun _ => id, fun i l hl => hl, E.sh⟩
  · cases cl <;> first | exact E.ro b hb | exact E.ro b (E.sub b hb)
  · cases cl <;> first | exact E.inR b hb | exact E.inF b hb
  · cases cl <;> first | exact E.inR b hb | exact E.inF b hb
theorem EsAt.mono {w w' : World} {m m' : Lm} {R R' Rf Rf' : Bs} (E : Ext w w' m m' R R' Rf Rf') {cl : Bool} {b o sz : Nat} {es : List (List AC)} (hb : w'.heap[b]? = w.heap[b]?) (h : EsAt w (sel cl Rf R) b o sz es) :
    EsAt w' (sel cl Rf' R') b o sz es :=
  fun i e he => (h i e he).mono (E.sel cl) hb
theorem Wr.mono {w w' : World} {b N : Nat} (hb : w'.heap[b]? = w.heap[b]?) (h : Wr w b N) : Wr w' b N := by
  obtain ⟨c, t, fr, h1, h2, h3⟩ := h
  refine ⟨c, t, fr, by rw [hb]; exact h1, h2, fun o ho => ?_⟩
  have := h3 o ho
  simpa [World.frozen?, hb] using this

/-- A buffer whose block is as it was. -/
theorem BR.mono {w w' : World} {m m' : Lm} {R R' Rf Rf' : Bs} (E : Ext w w' m m' R R' Rf Rf') {id : Nat} {x : Buf} (hb : ∀ k, blk m id = some k → w'.heap[k]? = w.heap[k]?) (h : BR w m R Rf id x) : BR w' m' R' Rf' id x := by
  cases x with
  | gone => trivial
  | obj t cs =>
    obtain ⟨b, base, N, h1, h2, h3, h4⟩ := h
    have hk := hb b (by simp [blk, h1, Loc.blk])
    exact ⟨b, base, N, E.m _ _ h1, h2.mono hk, h3, h4.mono E hk⟩
  | row cl sz es =>
    rcases h with ⟨h1, h2⟩ | ⟨b, base, N, h1, h2, h3, h4, h5⟩
    · exact .inl ⟨h1, E.m _ _ h2⟩
    · have hk := hb b (by simp [blk, h1, Loc.blk])
      exact .inr ⟨b, base, N, E.m _ _ h1, h2.mono hk, h3, h4, h5.mono E hk⟩
  | map cl es clock =>
    obtain ⟨b, ents, h1, h2, h3⟩ := h
    have hk := hb b (by simp [blk, h1, Loc.blk])
    exact ⟨b, ents, E.m _ _ h1, by rw [hk]; exact h2, h3⟩
end Go.AM

namespace Go.AM
open Go.RowKit

variable {B : Base} {w w' : World} {m : Lm} {R Rf : Bs} {h : Tr Buf}

/-- A block that no buffer has. -/
structure Free (B : Base) (w : World) (m : Lm) (R : Bs) (h : Tr Buf) (b : Nat) : Prop where
  lt : b < w.heap.size
  dis : ¬ R b
  no : ∀ i, live h i → blk m i ≠ some b
  own : B.F0 b ∨ B.w0.heap.size ≤ b

/-- w' is w but for block b, whose shape it keeps. -/
structure But (b : Nat) (w w' : World) : Prop where
  size : w'.heap.size = w.heap.size
  heap : ∀ k, k ≠ b → w'.heap[k]? = w.heap[k]?
  sh : ∀ k t n, w.shape? k = some (t, n) → w'.shape? k = some (t, n)
  os : w'.os = w.os
  tape : w'.tape = w.tape
  output : w'.output = w.output

theorem But.refl (b : Nat) (w : World) : But b w w := ⟨rfl, fun _ _ => rfl, fun _ _ _ h => h, rfl, rfl, rfl⟩
theorem But.trans {b : Nat} {w w' w'' : World} (h : But b w w') (k : But b w' w'') : But b w w'' :=
  ⟨k.size.trans h.size, fun i hi => (k.heap i hi).trans (h.heap i hi), fun i t n hs => k.sh i t n (h.sh i t n hs), k.os.trans h.os, k.tape.trans h.tape, k.output.trans h.output⟩

theorem live_del {id i : Nat} (hl : live (h.del id) i) : i ≠ id ∧ live h i := by
  obtain ⟨x, hx, hg⟩ := hl
  rw [Tr.get_del] at hx
  by_cases e : i = id
  · rw [if_pos e] at hx; cases hx
  · rw [if_neg e] at hx; exact ⟨e, x, hx, hg⟩
theorem live_set {id i : Nat} {b : Buf} (hl : live (h.set id b) i) : i = id ∨ (i ≠ id ∧ live h i) := by
  obtain ⟨x, hx, hg⟩ := hl
  rw [Tr.get_set] at hx
  by_cases e : i = id
  · exact .inl e
  · rw [if_neg e] at hx; exact .inr ⟨e, x, hx, hg⟩

theorem Inv.del (I : Inv B w m R Rf h) (id : Nat) : Inv B w m R Rf (h.del id) :=
  { I with
    br := fun i x hx => by
      rw [Tr.get_del] at hx
      by_cases e : i = id
      · rw [if_pos e] at hx; cases hx
      · rw [if_neg e] at hx; exact I.br i x hx
    uniq := fun i j k hi hj => I.uniq i j k (live_del hi).2 (live_del hj).2
    dis := fun i k hi => I.dis i k (live_del hi).2
    own := fun i k hi => I.own i k (live_del hi).2 }

theorem Inv.free (I : Inv B w m R Rf h) {id b : Nat} (hl : live h id) (hb : blk m id = some b) : Free B w m R (h.del id) b where
  lt := I.blt id b hb
  dis := I.dis id b hl hb
  no := fun i hi he => (live_del hi).1 (I.uniq i id b (live_del hi).2 hl he hb)
  own := I.own id b hl hb

theorem Free.del {b : Nat} (F : Free B w m R h b) (id : Nat) : Free B w m R (h.del id) b := { F with no := fun i hi => F.no i (live_del hi).2 }

/-- A block that nobody has becomes a buffer's. -/
theorem Inv.adopt (I : Inv B w m R Rf h) {b id : Nat} {m' : Lm} {l : Loc} {x : Buf} (F : Free B w m R h b) (U : But b w w') (hp : B.p ≤ id ∨ m id = some l)
    (hm : m' id = some l) (hl : l.blk = some b) (hn : m id = none ∨ m id = some l) (ho : ∀ i, i ≠ id → m' i = m i)
    (hx : BR w' m' R Rf id x) : Inv B w' m' R Rf (h.set id x) ∧ Ext w w' m m' R R Rf Rf := by
  have E : Ext w w' m m' R R Rf Rf := by
    refine ⟨fun k hk => U.heap k fun e => F.dis (e ▸ hk), fun _ => _root_.id, fun _ => _root_.id, I.sub, fun i l' hi => ?_, U.sh⟩
    by_cases e : i = id
    · subst e; rcases hn with hn | hn <;> rw [hn] at hi
      · cases hi
      · rw [hm]; exact hi
    · rw [ho i e]; exact hi
  have hblk : ∀ i, i ≠ id → blk m' i = blk m i := fun i hi => by simp [blk, ho i hi]
  have hbid : blk m' id = some b := by simp [blk, hm, hl]
  refine ⟨{ br := ?_, uniq := ?_, dis := ?_, sub := I.sub, rlt := fun k hk => U.size ▸ I.rlt k hk, blt := ?_, frame := ?_, size := U.size ▸ I.size, os := U.os.trans I.os, tape := U.tape.trans I.tape, output := U.output.trans I.output, own := ?_, rin := I.rin, rfin := I.rfin, pin := ?_ }, E⟩
  · intro i y hy
    rw [Tr.get_set] at hy
    by_cases e : i = id
    · rw [if_pos e] at hy; cases hy; subst e; exact hx
    · rw [if_neg e] at hy
      by_cases hg : y = .gone
      · subst hg; trivial
      · exact (I.br i y hy).mono E fun k hk => U.heap k fun e' => F.no i ⟨y, hy, hg⟩ (e' ▸ hk)
  · intro i j k hi hj hbi hbj
    rcases live_set hi with ei | ⟨ei, hi'⟩ <;> rcases live_set hj with ej | ⟨ej, hj'⟩
    · rw [ei, ej]
    · rw [ei, hbid] at hbi; rw [hblk _ ej] at hbj; cases hbi; exact absurd hbj (F.no _ hj')
    · rw [ej, hbid] at hbj; rw [hblk _ ei] at hbi; cases hbj; exact absurd hbi (F.no _ hi')
    · rw [hblk _ ei] at hbi; rw [hblk _ ej] at hbj; exact I.uniq _ _ _ hi' hj' hbi hbj
  · intro i k hi hb
    rcases live_set hi with rfl | ⟨ei, hi⟩
    · rw [hbid] at hb; cases hb; exact F.dis
    · rw [hblk _ ei] at hb; exact I.dis _ _ hi hb
  · intro i k hb
    rw [U.size]
    by_cases e : i = id
    · subst e; rw [hbid] at hb; cases hb; exact F.lt
    · rw [hblk _ e] at hb; exact I.blt _ _ hb
  · intro k hk hF
    by_cases e : k = b
    · subst e; exact absurd F.own (by intro h; rcases h with h | h; exact hF h; omega)
    · rw [U.heap k e]; exact I.frame k hk hF
  · intro i k hi hb
    rcases live_set hi with rfl | ⟨ei, hi⟩
    · rw [hbid] at hb; cases hb; exact F.own
    · rw [hblk _ ei] at hb; exact I.own _ _ hi hb
  · intro i hi
    by_cases e : i = id
    · subst e
      rcases hp with hp | hp
      · omega
      · rw [hm, ← hp]; exact I.pin _ hi
    · rw [ho i e]; exact I.pin i hi

/-- A number without memory: an empty row, or nothing. -/
theorem Inv.name (I : Inv B w m R Rf h) {id : Nat} {m' : Lm} {l : Loc} {x : Buf} (hp : B.p ≤ id ∨ m id = some l)
    (hm : m' id = some l) (hl : l.blk = none) (hn : m id = none ∨ m id = some l) (ho : ∀ i, i ≠ id → m' i = m i)
    (hx : BR w m' R Rf id x) : Inv B w m' R Rf (h.set id x) ∧ Ext w w m m' R R Rf Rf := by
  have E : Ext w w m m' R R Rf Rf := by
    refine ⟨fun k hk => rfl, fun _ => _root_.id, fun _ => _root_.id, I.sub, fun i l' hi => ?_, fun _ _ _ => _root_.id⟩
    by_cases e : i = id
    · subst e; rcases hn with hn | hn <;> rw [hn] at hi
      · cases hi
      · rw [hm]; exact hi
    · rw [ho i e]; exact hi
  have hblk : ∀ i, i ≠ id → blk m' i = blk m i := fun i hi => by simp [blk, ho i hi]
  have hbid : blk m' id = none := by simp [blk, hm, hl]
  refine ⟨{ br := ?_, uniq := ?_, dis := ?_, sub := I.sub, rlt := I.rlt, blt := ?_, frame := I.frame, size := I.size, os := I.os, tape := I.tape, output := I.output, own := ?_, rin := I.rin, rfin := I.rfin, pin := ?_ }, E⟩
  · intro i y hy
    rw [Tr.get_set] at hy
    by_cases e : i = id
    · rw [if_pos e] at hy; cases hy; subst e; exact hx
    · rw [if_neg e] at hy; exact (I.br i y hy).mono E fun k hk => rfl
  · intro i j k hi hj hbi hbj
    rcases live_set hi with ei | ⟨ei, hi'⟩ <;> rcases live_set hj with ej | ⟨ej, hj'⟩
    · rw [ei, ej]
    · rw [ei, hbid] at hbi; cases hbi
    · rw [ej, hbid] at hbj; cases hbj
    · rw [hblk _ ei] at hbi; rw [hblk _ ej] at hbj; exact I.uniq _ _ _ hi' hj' hbi hbj
  · intro i k hi hb
    rcases live_set hi with rfl | ⟨ei, hi⟩
    · rw [hbid] at hb; cases hb
    · rw [hblk _ ei] at hb; exact I.dis _ _ hi hb
  · intro i k hb
    by_cases e : i = id
    · subst e; rw [hbid] at hb; cases hb
    · rw [hblk _ e] at hb; exact I.blt _ _ hb
  · intro i k hi hb
    rcases live_set hi with rfl | ⟨ei, hi⟩
    · rw [hbid] at hb; cases hb
    · rw [hblk _ ei] at hb; exact I.own _ _ hi hb
  · intro i hi
    by_cases e : i = id
    · subst e
      rcases hp with hp | hp
      · omega
      · rw [hm, ← hp]; exact I.pin _ hi
    · rw [ho i e]; exact I.pin i hi

/-- More blocks; a draw. -/
structure More (w w' : World) : Prop where
  size : w.heap.size ≤ w'.heap.size
  heap : ∀ k, k < w.heap.size → w'.heap[k]? = w.heap[k]?
  os : w'.os = w.os
  tape : w'.tape = w.tape
  output : w'.output = w.output

theorem More.refl (w : World) : More w w := ⟨Nat.le_refl _, fun _ _ => rfl, rfl, rfl, rfl⟩
theorem More.shape (M : More w w') {k : Nat} {t : TypeId} {n : Nat} (hs : w.shape? k = some (t, n)) : w'.shape? k = some (t, n) := by
  have hk : k < w.heap.size := by
    rcases Nat.lt_or_ge k w.heap.size with h' | h'
    · exact h'
    · simp [World.shape?, Array.getElem?_eq_none h'] at hs
  simpa [World.shape?, M.heap k hk] using hs
theorem Inv.more (I : Inv B w m R Rf h) (M : More w w') : Inv B w' m R Rf h ∧ Ext w w' m m R R Rf Rf := by
  have E : Ext w w' m m R R Rf Rf := ⟨fun k hk => M.heap k (I.rlt k hk), fun _ => id, fun _ => id, I.sub, fun _ _ => id, fun _ _ _ hs => M.shape hs⟩
  exact ⟨{ I with
    br := fun i x hx => (I.br i x hx).mono E fun k hk => M.heap k (I.blt i k hk)
    rlt := fun k hk => Nat.lt_of_lt_of_le (I.rlt k hk) M.size
    blt := fun i k hk => Nat.lt_of_lt_of_le (I.blt i k hk) M.size
    frame := fun k hk hF => (M.heap k (Nat.lt_of_lt_of_le hk I.size)).trans (I.frame k hk hF)
    size := Nat.le_trans I.size M.size
    os := M.os.trans I.os
    tape := M.tape.trans I.tape
    output := M.output.trans I.output }, E⟩
theorem Inv.freeNew (I : Inv B w m R Rf h) (M : More w w') {b : Nat} (h1 : w.heap.size ≤ b) (h2 : b < w'.heap.size) : Free B w' m R h b where
  lt := h2
  dis := fun hR => by have := I.rlt b hR; omega
  no := fun i _ he => by have := I.blt i b he; omega
  own := .inr (Nat.le_trans I.size h1)

theorem More.push (w : World) (o : Obj) : More w { w with heap := w.heap.push o } where
  size := by simp
  heap := fun k hk => by rw [Array.getElem?_push, if_neg (by omega)]
  os := rfl
  tape := rfl
  output := rfl

/-- A block that nobody has becomes shared memory. -/
theorem Inv.share (I : Inv B w m R Rf h) {b : Nat} (F : Free B w m R h b) :
    Inv B w m (fun k => R k ∨ k = b) (fun k => Rf k ∨ k = b) h ∧ Ext w w m m R (fun k => R k ∨ k = b) Rf (fun k => Rf k ∨ k = b) := by
  have E : Ext w w m m R (fun k => R k ∨ k = b) Rf (fun k => Rf k ∨ k = b) := ⟨fun _ _ => rfl, fun _ => .inl, fun _ => .inl, I.sub, fun _ _ => id, fun _ _ _ => id⟩
  exact ⟨{ I with
    br := fun i x hx => (I.br i x hx).mono E fun k hk => rfl
    dis := fun i k hi hk hR => by
      rcases hR with hR | rfl
      · exact I.dis i k hi hk hR
      · exact F.no i hi hk
    sub := fun k hk => hk.imp (I.sub k) id
    rlt := fun k hk => by rcases hk with hk | rfl; exact I.rlt k hk; exact F.lt
    rin := fun k hk => by
      rcases hk with hk | rfl
      · exact I.rin k hk
      · exact .inr F.own
    rfin := fun k hk => by
      rcases hk with hk | rfl
      · exact I.rfin k hk
      · exact .inr F.own }, E⟩
end Go.AM

namespace Go.AM
open Go.RowKit

variable {B : Base} {w w' : World} {m : Lm} {R Rf : Bs} {h : Tr Buf} {P : Program}

theorem one_scalar (v : Value) : v.oneCell' = scalarV v := by cases v <;> rfl
theorem addr_add (b o i : Nat) : (⟨b, o, none⟩ : Addr).add i = ⟨b, o + i, none⟩ := by unfold Addr.add; split <;> simp_all

theorem Wr.cell {b N : Nat} (H : Wr w b N) {o : Nat} (ho : o < N) : ∃ u, w.cell? ⟨b, o, none⟩ = some u := by
  obtain ⟨c, t, fr, h1, h2, h3⟩ := H
  exact ⟨c[o]'(by omega), by simp [World.cell?, h1, h2, ho]⟩
theorem Wr.shape {b N : Nat} (H : Wr w b N) : ∃ t, w.shape? b = some (t, N) := by
  obtain ⟨c, t, fr, h1, h2, h3⟩ := H
  exact ⟨t, by simp [World.shape?, h1, h2]⟩
theorem Wr.frozen {b N : Nat} (H : Wr w b N) {o : Nat} (ho : o < N) : w.frozen? ⟨b, o, none⟩ = false := by
  obtain ⟨c, t, fr, h1, h2, h3⟩ := H
  exact h3 o ho
theorem Wr.lt {b N : Nat} (H : Wr w b N) : b < w.heap.size := by
  obtain ⟨c, t, fr, h1, h2, h3⟩ := H
  exact (Array.getElem?_eq_some_iff.1 h1).1
theorem shape_lt {k N : Nat} {t : TypeId} (h : w.shape? k = some (t, N)) : k < w.heap.size := by
  rcases Nat.lt_or_ge k w.heap.size with h' | h'
  · exact h'
  · simp [World.shape?, Array.getElem?_eq_none h'] at h

theorem But.setCell (b o : Nat) (v : Value) : But b w (w.setCell ⟨b, o, none⟩ v) where
  size := by simp
  heap := fun k hk => by simp only [World.setCell, Array.getElem?_modify]; rw [if_neg (by omega)]
  sh := fun k t n hs => by
    simp only [World.shape?, World.setCell, Array.getElem?_modify] at hs ⊢
    by_cases e : b = k
    · subst e
      rw [if_pos rfl]
      cases hb : w.heap[b]? with
      | none => rw [hb] at hs; simp at hs
      | some o => rw [hb] at hs; cases o <;> simp_all
    · rw [if_neg e]; exact hs
  os := rfl
  tape := rfl
  output := rfl
theorem But.setCells (b : Nat) : ∀ (vs : List Value) (o : Nat) (w : World), But b w (w.setCells b o vs)
  | [], _, _ => But.refl _ _
  | v :: r, o, w => (But.setCell b o v).trans (But.setCells b r (o + 1) _)

theorem Wr.setCell {b N : Nat} (H : Wr w b N) (o : Nat) (v : Value) : Wr (w.setCell ⟨b, o, none⟩ v) b N := by
  obtain ⟨c, t, fr, h1, h2, h3⟩ := H
  refine ⟨c.setIfInBounds o v, t, fr, ?_, by simpa using h2, fun j hj => by rw [World.frozen?_setCell]; exact h3 j hj⟩
  simp [World.setCell, Array.getElem?_modify, h1]
theorem Wr.setCells {b N : Nat} : ∀ (vs : List Value) (o : Nat) (w : World), Wr w b N → Wr (w.setCells b o vs) b N
  | [], _, _, H => H
  | v :: r, o, w, H => Wr.setCells r (o + 1) _ (H.setCell o v)

theorem cell_setCells {b N : Nat} (H : Wr w b N) {vs : List Value} {o : Nat} (hN : o + vs.length ≤ N) (j : Nat) :
    (w.setCells b o vs).cell? ⟨b, j, none⟩ = if o ≤ j ∧ j < o + vs.length then vs[j - o]? else w.cell? ⟨b, j, none⟩ := by
  by_cases hj : o ≤ j ∧ j < o + vs.length
  · rw [if_pos hj]
    have := World.cell?_setCells_in b vs o w (fun i hi => by obtain ⟨u, hu⟩ := H.cell (o := o + i) (by omega); simp [hu]) (j - o) (by omega)
    rw [show o + (j - o) = j by omega] at this
    rw [this, List.getElem?_eq_getElem (by omega)]
  · rw [if_neg hj]
    exact World.cell?_setCells_out b vs o w _ (fun _ _ => by simp; omega)

theorem run_store_wr {b N o : Nat} (H : Wr w b N) {vs : List Value} (hN : o + vs.length ≤ N) (hs : ∀ v ∈ vs, scalarV v = true) :
    (storeCells ⟨b, o, none⟩ vs).run P w = .ok () (w.setCells b o vs) := by
  have := run_storeCells_cells (P := P) b o vs 0 w (fun j hj => by obtain ⟨u, hu⟩ := H.cell (o := o + 0 + j) (by omega); simp only [hu]; rfl)
    (fun j hj => H.frozen (by omega)) (fun v hv => by rw [one_scalar]; exact hs v hv)
  simpa using this

theorem run_load_at {b o : Nat} {vs : List Value} (h : ∀ (k : Nat) (u : Value), vs[k]? = some u → w.cell? ⟨b, o + k, none⟩ = some u) :
    (loadCells ⟨b, o, none⟩ vs.length).run P w = .ok vs.toArray w :=
  run_loadCells_list w _ vs fun j v hj => by rw [addr_add]; exact h j v hj

/-- The model's cells behind the machine's. -/
theorem CsAt.vals {b o : Nat} {cs : List AC} (H : CsAt w m R Rf b o cs) : ∃ vs : List Value, Fa (CR w m R Rf) cs vs ∧ ∀ (k : Nat) (u : Value), vs[k]? = some u → w.cell? ⟨b, o + k, none⟩ = some u := by
  induction cs generalizing o with
  | nil => exact ⟨[], .nil, fun k u hu => by simp at hu⟩
  | cons c r ih =>
    obtain ⟨u, hu, hr⟩ := H 0 c rfl
    obtain ⟨vs, hf, hv⟩ := ih (o := o + 1) (fun k x hx => by
      obtain ⟨u, hu, hr⟩ := H (k + 1) x (by simpa using hx)
      exact ⟨u, by rw [show o + 1 + k = o + (k + 1) by omega]; exact hu, hr⟩)
    refine ⟨u :: vs, .cons hr hf, fun k u' hk => ?_⟩
    cases k with
    | zero => simp at hk; subst hk; simpa using hu
    | succ k => simp at hk; rw [show o + (k + 1) = o + 1 + k by omega]; exact hv k u' hk
theorem CsAt.of_vals {b o : Nat} {cs : List AC} {vs : List Value} (hf : Fa (CR w m R Rf) cs vs) (hv : ∀ (k : Nat) (u : Value), vs[k]? = some u → w.cell? ⟨b, o + k, none⟩ = some u) : CsAt w m R Rf b o cs :=
  fun k x hx => let ⟨u, hu, hr⟩ := hf.get k x hx; ⟨u, hv k u hu, hr⟩
theorem CsAt.part {b o : Nat} {cs : List AC} (H : CsAt w m R Rf b o cs) (i n : Nat) : CsAt w m R Rf b (o + i) ((cs.drop i).take n) := by
  intro k x hx
  rw [List.getElem?_take] at hx
  split at hx
  · rw [List.getElem?_drop] at hx
    obtain ⟨u, hu, hr⟩ := H (i + k) x hx
    exact ⟨u, by rw [show o + i + k = o + (i + k) by omega]; exact hu, hr⟩
  · cases hx

theorem splice_length : ∀ (cs : List AC) (o : Nat) (xs : List AC), (splice cs o xs).length = cs.length
  | [], _, _ => by unfold splice; rfl
  | c :: cs, 0, [] => by unfold splice; rfl
  | c :: cs, 0, x :: xs => by unfold splice; simp [splice_length cs 0 xs]
  | c :: cs, o + 1, xs => by unfold splice; simp [splice_length cs o xs]
theorem splice_get : ∀ (cs : List AC) (o : Nat) (xs : List AC) (k : Nat), o + xs.length ≤ cs.length →
    (splice cs o xs)[k]? = if o ≤ k ∧ k < o + xs.length then xs[k - o]? else cs[k]?
  | [], o, xs, k, hl => by
    have : xs = [] := by cases xs <;> simp_all
    subst this; unfold splice; rw [if_neg (by intro hh; simp at hh <;> omega)]
  | c :: cs, 0, [], k, hl => by unfold splice; rw [if_neg (by simp)]
  | c :: cs, 0, x :: xs, k, hl => by
    unfold splice
    cases k with
    | zero => simp
    | succ k =>
      simp only [List.getElem?_cons_succ]
      rw [splice_get cs 0 xs k (by simp at hl ⊢; omega)]
      by_cases hk : k < xs.length
      · rw [if_pos (by simp; omega), if_pos (by simp; omega)]; simp
      · rw [if_neg (by simp; omega), if_neg (by simp; omega)]
  | c :: cs, o + 1, xs, k, hl => by
    unfold splice
    cases k with
    | zero => rw [if_neg (by omega)]; simp
    | succ k =>
      simp only [List.getElem?_cons_succ]
      rw [splice_get cs o xs k (by simp at hl ⊢; omega)]
      by_cases hk : o ≤ k ∧ k < o + xs.length
      · rw [if_pos hk, if_pos (by omega), show k + 1 - (o + 1) = k - o by omega]
      · rw [if_neg hk, if_neg (by omega)]

/-- Cells laid over cells. -/
theorem CsAt.splice {b N o i : Nat} {cs xs : List AC} {us : List Value} (hW : Wr w b N) (hN : o + cs.length ≤ N) (hi : i + xs.length ≤ cs.length)
    (H : CsAt w m R Rf b o cs) (hx : Fa (CR w m R Rf) xs us) (E : Ext w (w.setCells b (o + i) us) m m R R Rf Rf) :
    CsAt (w.setCells b (o + i) us) m R Rf b o (splice cs i xs) := by
  have hlen := hx.length
  intro k x hk
  rw [splice_get cs i xs k hi] at hk
  rw [cell_setCells hW (by omega)]
  split at hk
  · rename_i hc
    obtain ⟨u, hu, hr⟩ := hx.get _ _ hk
    exact ⟨u, by rw [if_pos (by omega), show o + k - (o + i) = k - i by omega]; exact hu, hr.mono E⟩
  · rename_i hc
    obtain ⟨u, hu, hr⟩ := H k x hk
    exact ⟨u, by rw [if_neg (by omega)]; exact hu, hr.mono E⟩

theorem Fa.scalars {cs : List AC} {us : List Value} (hx : Fa (CR w m R Rf) cs us) : ∀ u ∈ us, scalarV u = true := fun u hu => let ⟨a, _, hr⟩ := hx.mem u hu; hr.scalar

/-! ### What the model's helpers answer -/
theorem run_under {t : TypeId} {d : TypeDesc} (h : P.underlying t = some d) : (underlying t).run P w = .ok d w := run_underlying h w
theorem info_of_under {t : TypeId} {d : TypeDesc} (h : P.underlying t = some d) : ∃ i, P.info? t = some i := by
  unfold Program.underlying at h
  cases hi : P.info? t with
  | none => simp [hi] at h
  | some i => exact ⟨i, rfl⟩
theorem run_size {t : TypeId} {i : TypeInfo} (h : P.info? t = some i) : (sizeOf t).run P w = .ok (P.cellsOf t) w := by
  simp [sizeOf, typeInfo, h, Program.cellsOf]
theorem run_info {t : TypeId} {i : TypeInfo} (h : P.info? t = some i) : (typeInfo t).run P w = .ok i w := by
  simp [typeInfo, h]
theorem bytes_info {t : TypeId} {i : TypeInfo} (h : P.info? t = some i) : P.bytesOf t = i.bytes := by simp [Program.bytesOf, h]
theorem cells_info {t : TypeId} {i : TypeInfo} (h : P.info? t = some i) : P.cellsOf t = i.size := by simp [Program.cellsOf, h]
theorem info_of_cells {t : TypeId} (h : P.cellsOf t ≠ 0) : ∃ i, P.info? t = some i := by
  cases hi : P.info? t with
  | none => simp [Program.cellsOf, hi] at h
  | some i => exact ⟨i, rfl⟩
theorem run_isAgg {t : TypeId} {d : TypeDesc} (h : P.underlying t = some d) : (isAgg t).run P w = .ok (aggT P t) w := by
  simp only [isAgg, Sem.run_bind, run_under h, Result.andThen_ok, aggT, h]
  cases d <;> rfl
theorem run_zero {t : TypeId} {i : TypeInfo} {v : Value} (h : P.info? t = some i) (hz : i.zero = some v) : (zeroValue t).run P w = .ok v w := by
  simp [zeroValue, run_info h, hz]
theorem zeroCs_spec {t : TypeId} {cs : List AC} (h : zeroCs P t = some cs) : ∃ i v, P.info? t = some i ∧ i.zero = some v ∧ cs = v.cells.toList.map .v ∧ (∀ x ∈ v.cells.toList, scalarV x = true) ∧ v.cells.size = P.cellsOf t := by
  unfold zeroCs at h
  split at h
  · rename_i v hv
    split at h
    · rename_i hc
      cases hi : P.info? t with
      | none => simp [hi] at hv
      | some i =>
        simp only [hi, Option.bind_some] at hv
        simp only [Bool.and_eq_true, List.all_eq_true, Nat.beq_eq_true_eq] at hc
        cases h
        exact ⟨i, v, rfl, hv, rfl, hc.1, by simpa using hc.2⟩
    · cases h
  · cases h
theorem Fa.of_v {vs : List Value} (h : ∀ x ∈ vs, scalarV x = true) : Fa (CR w m R Rf) (vs.map .v) vs := by
  induction vs with
  | nil => exact .nil
  | cons v r ih => exact .cons (.v (h v (by simp))) (ih fun x hx => h x (by simp [hx]))
end Go.AM

namespace Go.AM
open Go.RowKit

variable {B : Base} {w w' : World} {m : Lm} {R Rf : Bs} {h : Tr Buf} {P : Program} {β : Type}

theorem bnd_some {α β : Type} {x : Option α} {k : α → Option β} {o : β} (h : bnd x k = some o) : ∃ a, x = some a ∧ k a = some o := by
  cases x with | none => cases h | some a => exact ⟨a, rfl, h⟩
theorem ite_some {β : Type} {b : Bool} {x y : Option β} {o : β} (h : ite' b x y = some o) : (b = true ∧ x = some o) ∨ (b = false ∧ y = some o) := by
  cases b <;> simp_all [ite']
theorem itef_some {β : Type} {b : Bool} {y : Option β} {o : β} (h : ite' b none y = some o) : b = false ∧ y = some o := by
  cases b <;> simp_all [ite']
theorem itet_some {β : Type} {b : Bool} {x : Option β} {o : β} (h : ite' b x none = some o) : b = true ∧ x = some o := by
  cases b <;> simp_all [ite']

theorem VR.v_inv {x u : Value} (h : VR w m R Rf (.c (.v x)) u) : u = x := by
  cases h with | c h => cases h; rfl
theorem VR.v_scalar {x u : Value} (h : VR w m R Rf (.c (.v x)) u) : scalarV x = true := by
  cases h with | c h => cases h; assumption
theorem VR.int {k : IntKind} {n : Int} : VR w m R Rf (aInt k n) (.int k n) := .c (.v rfl)
theorem VR.bool {b : Bool} : VR w m R Rf (aBool b) (.bool b) := .c (.v rfl)
theorem VR.str {b : ByteArray} : VR w m R Rf (aStr b) (.string b) := .c (.v rfl)

/-! ### Strings -/
theorem toList_eq (s : ByteArray) : s.toList = s.data.toList := ByteArray.toList_eq s
theorem ba_ext {a b : ByteArray} (h : a.data.toList = b.data.toList) : a = b := ByteArray.ext (Array.ext' h)
theorem strCat_eq (a b : ByteArray) : strCat a b = a ++ b := by
  apply ba_ext
  simp [strCat]
theorem strCut_eq (s : ByteArray) (l h : Nat) : strCut s l h = s.extract l h := by
  apply ba_ext
  simp [strCut, List.extract]
theorem strLen_eq (s : ByteArray) : strLen s = s.size := by cases s; rfl
theorem ba_beq (a b : ByteArray) : (a == b) = true ↔ a = b := by
  obtain ⟨x⟩ := a
  obtain ⟨y⟩ := b
  constructor
  · intro h
    have e : x = y := by simpa using (show (x == y) = true from h)
    rw [e]
  · intro h
    cases h
    show (x == x) = true
    simp
theorem strEq_eq (a b : ByteArray) : strEq a b = (a == b) := by
  rw [Bool.eq_iff_iff, ba_beq]
  constructor
  · intro h; exact ba_ext (by simpa [strEq] using h)
  · intro h; subst h; simp [strEq]
theorem strEq_list (a b : ByteArray) : strEq a b = (a.toList == b.toList) := by rw [toList_eq, toList_eq]; rfl

/-! ### Binary operations -/
theorem binInt_good {op : BinOp} {k : IntKind} {a b : Int} {K : AV → Option β} {out : β} (H : binInt op k a b K = some out) :
    ∃ r val, K r = some out ∧ (∀ t w, (binOp op t (.int k a) (.int k b)).run P w = .ok val w) ∧ ∀ w m R Rf, VR w m R Rf r val := by
  cases op <;> simp only [binInt, bAdd, bSub, bMul, bQuo, bRem, bAnd, bOr, bXor, bAndNot, bEql, bNeq, bLss, bLeq, bGtr, bGeq, bNone] at H
  case quo =>
    obtain ⟨hb, H⟩ := itef_some H
    refine ⟨_, _, H, fun t w => ?_, fun _ _ _ _ => .int⟩
    simp only [beq_eq_false_iff_ne] at hb
    simp [binOp, Op.intDiv, hb]
  case rem =>
    obtain ⟨hb, H⟩ := itef_some H
    refine ⟨_, _, H, fun t w => ?_, fun _ _ _ _ => .int⟩
    simp only [beq_eq_false_iff_ne] at hb
    simp [binOp, Op.intDiv, hb]
  case shl => cases H
  case shr => cases H
  case add => exact ⟨_, _, H, fun t w => by simp [binOp, Op.intArith], fun _ _ _ _ => .int⟩
  case sub => exact ⟨_, _, H, fun t w => by simp [binOp, Op.intArith], fun _ _ _ _ => .int⟩
  case mul => exact ⟨_, _, H, fun t w => by simp [binOp, Op.intArith], fun _ _ _ _ => .int⟩
  case and => exact ⟨_, _, H, fun t w => by simp [binOp, Op.intBits], fun _ _ _ _ => .int⟩
  case or => exact ⟨_, _, H, fun t w => by simp [binOp, Op.intBits], fun _ _ _ _ => .int⟩
  case xor => exact ⟨_, _, H, fun t w => by simp [binOp, Op.intBits], fun _ _ _ _ => .int⟩
  case andNot => exact ⟨_, _, H, fun t w => by simp [binOp, Op.intBits], fun _ _ _ _ => .int⟩
  all_goals exact ⟨_, _, H, fun t w => by simp [binOp, Op.intCmp], fun _ _ _ _ => .bool⟩

theorem binShift_good {op : BinOp} {k k' : IntKind} {a b : Int} (hop : op = .shl ∨ op = .shr) {K : AV → Option β} {out : β} (H : binShift op k a b K = some out) :
    ∃ r val, K r = some out ∧ (∀ t w, (binOp op t (.int k a) (.int k' b)).run P w = .ok val w) ∧ ∀ w m R Rf, VR w m R Rf r val := by
  obtain ⟨hb, H⟩ := itef_some H
  have hb' : ¬ b < 0 := by simpa using hb
  rcases hop with rfl | rfl
  · exact ⟨_, _, H, fun t w => by simp [binOp, Op.shift, hb'], fun _ _ _ _ => .int⟩
  · exact ⟨_, _, H, fun t w => by simp [binOp, Op.shift, hb'], fun _ _ _ _ => .int⟩

theorem binStr_good {op : BinOp} {a b : ByteArray} {K : AV → Option β} {out : β} (H : binStr op a b K = some out) :
    ∃ r val, K r = some out ∧ (∀ t w, (binOp op t (.string a) (.string b)).run P w = .ok val w) ∧ ∀ w m R Rf, VR w m R Rf r val := by
  cases op <;> simp only [binStr] at H <;> try (cases H; done)
  case add =>
    obtain ⟨hb, H⟩ := itet_some H
    refine ⟨_, _, H, fun t w => ?_, fun _ _ _ _ => .str⟩
    have : ¬ (((a.size + b.size : Nat) : Int) > IntKind.i64.max) := by
      simp only [decide_eq_true_eq, strLen_eq] at hb
      have : IntKind.i64.max = 9223372036854775807 := by decide
      rw [this]; omega
    simp only [binOp, Op.stringOp, this, if_false, strCat_eq]; rfl
  all_goals exact ⟨_, _, H, fun t w => by simp [binOp, Op.stringOp, strEq_list, toList_eq], fun _ _ _ _ => .bool⟩
end Go.AM

namespace Go.AM
open Go.RowKit

variable {B : Base} {w w' : World} {m : Lm} {R Rf : Bs} {h : Tr Buf} {P : Program} {β : Type}

/-! ### Equality -/
def fitVal : CT → Value → Bool
  | .int k, .int k' _ => decide (k = k')
  | .bool, .bool _ => true
  | .str, .string _ => true
  | _, _ => false
def fitVals : List CT → List Value → Bool
  | [], [] => true
  | t :: ts, c :: cs => fitVal t c && fitVals ts cs
  | _, _ => false
def eqVal : Value → Value → Bool
  | .int _ a, .int _ b => a == b
  | .bool a, .bool b => a == b
  | .string a, .string b => strEq a b
  | _, _ => false
def eqVals : List Value → List Value → Bool
  | [], _ => true
  | _ :: _, [] => true
  | x :: xs, y :: ys => eqVal x y && eqVals xs ys

theorem fitVals_length : ∀ {ts : List CT} {xs : List Value}, fitVals ts xs = true → xs.length = ts.length
  | [], [], _ => rfl
  | [], _ :: _, h => by simp [fitVals] at h
  | _ :: _, [], h => by simp [fitVals] at h
  | t :: ts, x :: xs, h => by simp [fitVals] at h; simp [fitVals_length h.2]
theorem fitVals_append : ∀ {ts us : List CT} {xs : List Value}, fitVals (ts ++ us) xs = true → fitVals ts (xs.take ts.length) = true ∧ fitVals us (xs.drop ts.length) = true
  | [], us, xs, h => by simpa [fitVals] using h
  | t :: ts, us, [], h => by simp [fitVals] at h
  | t :: ts, us, x :: xs, h => by
    simp only [List.cons_append, fitVals, Bool.and_eq_true] at h
    have := fitVals_append h.2
    exact ⟨by simp [fitVals, h.1, this.1], by simpa using this.2⟩
theorem eqVals_append : ∀ (n : Nat) (xs ys : List Value), eqVals xs ys = (eqVals (xs.take n) (ys.take n) && eqVals (xs.drop n) (ys.drop n))
  | 0, xs, ys => by simp [eqVals]
  | n + 1, [], ys => by simp [eqVals]
  | n + 1, x :: xs, [] => by simp [eqVals]; cases xs.drop n <;> rfl
  | n + 1, x :: xs, y :: ys => by simp [eqVals, eqVals_append n xs ys, Bool.and_assoc]

theorem fitC_spec {t : CT} {c : AC} (hf : fitC t c = true) : ∃ x, c = .v x ∧ fitVal t x = true := by
  unfold fitC at hf
  split at hf <;> first | exact ⟨_, rfl, hf⟩ | cases hf
theorem fitCs_spec : ∀ {ts : List CT} {cs : List AC} {xs : List Value}, fitCs ts cs = true → Fa (CR w m R Rf) cs xs → cs = xs.map .v ∧ fitVals ts xs = true := by
  intro ts cs xs hf hx
  induction hx generalizing ts with
  | nil => cases ts <;> simp_all [fitCs, fitVals]
  | cons hr _ ih =>
    cases ts with
    | nil => simp [fitCs] at hf
    | cons t ts =>
      simp only [fitCs, Bool.and_eq_true] at hf
      obtain ⟨x, rfl, hx⟩ := fitC_spec hf.1
      obtain ⟨h1, h2⟩ := ih hf.2
      cases hr
      exact ⟨by simp [h1], by simp [fitVals, hx, h2]⟩
theorem eqCell_spec {t : CT} {x : Value} {d : AC} {y : Value} {b : Bool} (hf : fitVal t x = true) (he : eqCell (.v x) d = some b) (hy : CR w m R Rf d y) : fitVal t y = true ∧ d = .v y ∧ b = eqVal x y := by
  cases d <;> simp only [eqCell] at he <;> try (cases x <;> cases he; done)
  rename_i z
  cases hy
  unfold fitVal at hf
  split at hf
  · rename_i k k' n
    cases y <;> simp only [eqCell] at he <;> try (cases he; done)
    split at he
    · rename_i hk
      cases he
      simp only [decide_eq_true_eq] at hf hk
      exact ⟨by simp [fitVal, hf, hk], rfl, rfl⟩
    · cases he
  · cases y <;> simp only [eqCell] at he <;> first | (cases he; done) | (cases he; exact ⟨rfl, rfl, rfl⟩)
  · cases y <;> simp only [eqCell] at he <;> first | (cases he; done) | (cases he; exact ⟨rfl, rfl, rfl⟩)
  · cases hf
theorem eqCells_cons {x y : AC} {xs ys : List AC} {b : Bool} (he : eqCells (x :: xs) (y :: ys) = some b) : ∃ p q, eqCell x y = some p ∧ eqCells xs ys = some q ∧ b = (p && q) := by
  cases xs with
  | nil =>
    cases ys with
    | nil => exact ⟨b, true, by simpa [eqCells] using he, rfl, by simp⟩
    | cons z zs =>
      simp only [eqCells] at he
      split at he
      · rename_i h1 h2; cases h2
      · cases he
  | cons z zs =>
    cases ys with
    | nil =>
      simp only [eqCells] at he
      split at he
      · rename_i h1 h2; cases h2
      · cases he
    | cons u us =>
      rw [eqCells.eq_def] at he
      simp only at he
      split at he
      · rename_i p q h1 h2
        cases he
        exact ⟨p, q, h1, h2, rfl⟩
      · cases he
theorem eqCells_spec : ∀ {ts : List CT} {xs : List Value} {ds : List AC} {ys : List Value} {b : Bool}, fitVals ts xs = true → eqCells (xs.map .v) ds = some b → Fa (CR w m R Rf) ds ys →
    fitVals ts ys = true ∧ ds = ys.map .v ∧ b = eqVals xs ys := by
  intro ts xs
  induction xs generalizing ts with
  | nil =>
    intro ds ys b hf he hy
    cases ds with
    | nil =>
      cases hy
      cases he
      cases ts <;> simp_all [fitVals, eqVals]
    | cons d ds => simp [eqCells] at he
  | cons x xs ih =>
    intro ds ys b hf he hy
    cases ts with
    | nil => simp [fitVals] at hf
    | cons t ts =>
      simp only [fitVals, Bool.and_eq_true] at hf
      cases hy with
      | nil => simp only [List.map_cons] at he; cases hxs : xs.map AC.v <;> rw [hxs] at he <;> simp [eqCells] at he
      | cons hr hys =>
        obtain ⟨p, q, h1, h2, rfl⟩ := eqCells_cons he
        obtain ⟨a1, a2, a3⟩ := eqCell_spec hf.1 h1 hr
        obtain ⟨b1, b2, b3⟩ := ih hf.2 h2 hys
        exact ⟨by simp [fitVals, a1, b1], by simp [a2, b2], by simp [eqVals, a3, b3]⟩

/-- A value of type t out of its cells. -/
def valOf (P : Program) (t : TypeId) (xs : List Value) : Value := match aggT P t with | true => .agg xs.toArray | false => xs.headD undef

theorem eqCts_under {d : Nat} {t : TypeId} {tys : List CT} (he : eqCts P d t = some tys) : ∃ u, P.underlying t = some u := by
  cases d with
  | zero => cases he
  | succ d =>
    unfold eqCts at he
    cases hu : P.underlying t with
    | none => simp [hu] at he
    | some u => exact ⟨u, rfl⟩

theorem run_part {t : TypeId} {u : TypeDesc} {i : TypeInfo} (hu : P.underlying t = some u) (hi : P.info? t = some i) {arr : Array Value} {off n : Nat} (hn : n = P.cellsOf t) (hl : off + n ≤ arr.size) (h1 : aggT P t = false → n = 1) :
    (part t arr off).run P w = .ok (valOf P t ((arr.toList.drop off).take n)) w := by
  unfold part
  simp only [Sem.run_bind, run_isAgg hu, Result.andThen_ok]
  cases ha : aggT P t with
  | true =>
    simp only [if_true, Sem.run_bind, run_size hi, Result.andThen_ok, Sem.run_pure, valOf, ha]
    congr 2
    apply Array.ext'
    rw [← hn]
    simp [List.extract]
  | false =>
    have := h1 ha
    subst this
    have hlt : off < arr.size := by omega
    simp only [Bool.false_eq_true, if_false, valOf, ha]
    rw [Array.getElem?_eq_getElem hlt]
    simp only [Sem.run_pure]
    congr 1
    have : (arr.toList.drop off) = arr[off] :: arr.toList.drop (off + 1) := by
      rw [List.drop_eq_getElem_cons (by simpa using hlt)]; simp
    rw [this]; rfl

theorem eqCts_one {d : Nat} {t : TypeId} {tys : List CT} (he : eqCts P d t = some tys) (ha : aggT P t = false) : tys.length = 1 := by
  cases d with
  | zero => cases he
  | succ d =>
    unfold eqCts at he
    split at he
    · cases he; rfl
    · cases he; rfl
    · cases he; rfl
    · rename_i fs hu
      simp [aggT, hu] at ha
    · cases he

theorem run_eqFs {n : Nat} {rec : TypeId → Option (List CT)}
    (ih : ∀ (t : TypeId) (tys : List CT), rec t = some tys → (∃ u, P.underlying t = some u) ∧ (aggT P t = false → tys.length = 1) ∧
      ∀ xs ys : List Value, fitVals tys xs = true → fitVals tys ys = true → (Op.equalIn n t (valOf P t xs) (valOf P t ys)).run P w = .ok (eqVals xs ys) w) :
    ∀ (fs : List Field) (off : Nat) (tys : List CT) (xs ys : Array Value), eqFs rec P fs off = some tys → fitVals tys (xs.toList.drop off) = true → fitVals tys (ys.toList.drop off) = true →
      (Op.eqFields n xs ys fs).run P w = .ok (eqVals (xs.toList.drop off) (ys.toList.drop off)) w := by
  intro fs
  induction fs with
  | nil =>
    intro off tys xs ys he hx hy
    simp only [eqFs, Option.some.injEq] at he
    subst he
    have h0 := fitVals_length hx
    have : xs.toList.drop off = [] := List.eq_nil_of_length_eq_zero (by simpa using h0)
    rw [this]; simp [Op.eqFields, eqVals]
  | cons f r ih2 =>
    intro off tys xs ys he hx hy
    unfold eqFs at he
    split at he
    · rename_i l h1 h2 h3
      split at he
      · rename_i h4
        split at he
        · rename_i r' h5
          cases he
          rw [Bool.and_eq_true, Option.isSome_iff_exists] at h4
          obtain ⟨hlen, i, hi⟩ := h4
          replace hlen := Nat.eq_of_beq_eq_true hlen
          have hoff : f.offset = off := Nat.eq_of_beq_eq_true h2
          obtain ⟨⟨u, hu⟩, hone, hrec⟩ := ih _ _ h3
          have hn : f.name ≠ "_" := by simpa using h1
          obtain ⟨x1, x2⟩ := fitVals_append hx
          obtain ⟨y1, y2⟩ := fitVals_append hy
          have lx : (xs.toList.drop off).length = (l ++ r').length := fitVals_length hx
          have ly : (ys.toList.drop off).length = (l ++ r').length := fitVals_length hy
          simp at lx ly
          have sx : off + l.length ≤ xs.size ∨ l.length = 0 := by omega
          have hl0 : aggT P f.type = false → l.length = 1 := hone
          have px : (part f.type xs f.offset).run P w = .ok (valOf P f.type ((xs.toList.drop off).take l.length)) w := by
            rw [hoff]
            by_cases hz : off + l.length ≤ xs.size
            · exact run_part hu hi hlen hz hone
            · have hz0 : l.length = 0 := by omega
              have ha : aggT P f.type = true := by cases ha : aggT P f.type with | true => rfl | false => have := hone ha; omega
              unfold part
              simp only [Sem.run_bind, run_isAgg hu, Result.andThen_ok, ha, if_true, run_size hi, Sem.run_pure, valOf]
              rw [← hlen, hz0]; simp; omega
          have py : (part f.type ys f.offset).run P w = .ok (valOf P f.type ((ys.toList.drop off).take l.length)) w := by
            rw [hoff]
            by_cases hz : off + l.length ≤ ys.size
            · exact run_part hu hi hlen hz hone
            · have hz0 : l.length = 0 := by omega
              have ha : aggT P f.type = true := by cases ha : aggT P f.type with | true => rfl | false => have := hone ha; omega
              unfold part
              simp only [Sem.run_bind, run_isAgg hu, Result.andThen_ok, ha, if_true, run_size hi, Sem.run_pure, valOf]
              rw [← hlen, hz0]; simp; omega
          have he := hrec _ _ x1 y1
          have hr := ih2 (off + l.length) r' xs ys h5 (by simpa [List.drop_drop] using x2) (by simpa [List.drop_drop] using y2)
          rw [Op.eqFields, if_pos hn]
          simp only [Sem.run_bind, px, py, he, Result.andThen_ok]
          rw [eqVals_append l.length (xs.toList.drop off) (ys.toList.drop off)]
          cases eqVals ((xs.toList.drop off).take l.length) ((ys.toList.drop off).take l.length)
          · simp
          · simp only [Bool.not_true, Bool.false_eq_true, if_false, Bool.true_and, hr, List.drop_drop]
        · cases he
      · cases he
    · cases he

theorem fit_bool {xs : List Value} (h : fitVals [.bool] xs = true) : ∃ a, xs = [.bool a] := by
  cases xs with
  | nil => simp [fitVals] at h
  | cons x r => cases r with
    | nil => cases x <;> simp [fitVals, fitVal] at h; exact ⟨_, rfl⟩
    | cons y r => simp [fitVals] at h
theorem fit_str {xs : List Value} (h : fitVals [.str] xs = true) : ∃ a, xs = [.string a] := by
  cases xs with
  | nil => simp [fitVals] at h
  | cons x r => cases r with
    | nil => cases x <;> simp [fitVals, fitVal] at h; exact ⟨_, rfl⟩
    | cons y r => simp [fitVals] at h
theorem fit_int {k : IntKind} {xs : List Value} (h : fitVals [.int k] xs = true) : ∃ a, xs = [.int k a] := by
  cases xs with
  | nil => simp [fitVals] at h
  | cons x r => cases r with
    | nil => cases x <;> simp [fitVals, fitVal] at h; subst h; exact ⟨_, rfl⟩
    | cons y r => simp [fitVals] at h
theorem run_eqCts : ∀ (d n : Nat) (t : TypeId) (tys : List CT), d ≤ n → eqCts P d t = some tys → ∀ xs ys : List Value, fitVals tys xs = true → fitVals tys ys = true →
    (Op.equalIn n t (valOf P t xs) (valOf P t ys)).run P w = .ok (eqVals xs ys) w := by
  intro d
  induction d with
  | zero => intro n t tys hn he; cases he
  | succ d ih =>
    intro n t tys hn he xs ys hx hy
    obtain ⟨n, rfl⟩ : ∃ k, n = k + 1 := ⟨n - 1, by omega⟩
    unfold eqCts at he
    split at he
    · rename_i hu
      cases he
      have ha : aggT P t = false := by simp [aggT, hu]
      obtain ⟨a, rfl⟩ := fit_bool hx
      obtain ⟨b, rfl⟩ := fit_bool hy
      simp [valOf, ha, run_equalIn_bool w n t a b hu, eqVals, eqVal]
    · rename_i k hu
      cases he
      have ha : aggT P t = false := by simp [aggT, hu]
      obtain ⟨a, rfl⟩ := fit_int hx
      obtain ⟨b, rfl⟩ := fit_int hy
      simp [valOf, ha, run_equalIn_int w n t _ _ a b hu, eqVals, eqVal]
    · rename_i hu
      cases he
      have ha : aggT P t = false := by simp [aggT, hu]
      obtain ⟨a, rfl⟩ := fit_str hx
      obtain ⟨b, rfl⟩ := fit_str hy
      simp [valOf, ha, run_equalIn_string w n t a b hu, eqVals, eqVal, strEq_list]
    · rename_i fs hu
      have ha : aggT P t = true := by simp [aggT, hu]
      split at he
      · cases he
      · rename_i hp
        have hf : P.fieldsOf t = fs := by simp [Program.fieldsOf, hu]
        have := run_eqFs (P := P) (w := w) (n := n) (rec := eqCts P d)
          (fun t tys ht => ⟨eqCts_under ht, eqCts_one ht, fun xs ys hx hy => ih n t tys (by omega) ht xs ys hx hy⟩) fs.toList 0 tys xs.toArray ys.toArray he (by simpa using hx) (by simpa using hy)
        rw [valOf, valOf, ha, run_equalIn_struct w n t _ _ (by rw [hf]; exact hu) hp, hf]
        simpa using this
    · cases he
end Go.AM

namespace Go.AM
open Go.RowKit

variable {B : Base} {w w' : World} {m : Lm} {R Rf : Bs} {h : Tr Buf} {P : Program} {β : Type}

theorem run_eqGuard {op : BinOp} {t : TypeId} {ox oy : Operand} {a b : Value} (hn : ¬ (a = .nilIface ∧ b = .nilIface)) (hg : ∀ xs ys, a = .agg xs → b = .agg ys → P.eqGuardType P.depth t = false) :
    (eqGuard op t ox oy a b).run P w = .ok () w := by
  unfold eqGuard
  cases op
  all_goals simp only [Bool.not_true, Bool.not_false, if_true, Bool.false_eq_true, if_false]
  all_goals first
    | rfl
    | (split
       · exact absurd ⟨rfl, rfl⟩ hn
       · rename_i xs ys
         have := hg xs ys rfl rfl
         simp [this]
       · rfl)

theorem VR.agg_inv {cs : List AC} {v : Value} (hv : VR w m R Rf (.agg cs) v) : ∃ arr, v = .agg arr ∧ Fa (CR w m R Rf) cs arr.toList := by
  cases hv with | agg arr hf => exact ⟨arr, rfl, hf⟩
theorem VR.c_inv {x : AC} {v : Value} (hv : VR w m R Rf (.c x) v) : CR w m R Rf x v := by cases hv; assumption

theorem isNilP_spec {x : AC} {b : Bool} {v : Value} (hx : isNilP x = some b) (hv : CR w m R Rf x v) : ∃ p, v = .pointer p ∧ p.isNone = b := by
  unfold isNilP at hx
  split at hx
  · cases hx; cases hv; exact ⟨none, rfl, rfl⟩
  · cases hx; cases hv <;> exact ⟨_, rfl, rfl⟩
  · cases hx; cases hv; exact ⟨_, rfl, rfl⟩
  · cases hx

theorem run_equal_ptr {t : TypeId} {e : TypeId} (hu : P.underlying t = some (.pointer e)) {p q : Option Addr} (hn : p = none ∨ q = none) :
    (Op.equal t (.pointer p) (.pointer q)).run P w = .ok (p.isNone && q.isNone) w := by
  change (Op.equalIn (9999 + 1) t _ _).run P w = _
  generalize 9999 = d
  rcases hn with rfl | rfl
  · simp [Op.equalIn, run_under hu]
  · cases p <;> simp [Op.equalIn, run_under hu]

theorem eqK_good {neg : Bool} {t : TypeId} {x y : AV} {K : AV → Option β} {out : β} (H : eqK P neg t x y K = some out) :
    ∃ r, K r = some out ∧ ∀ (w : World) (m : Lm) (R Rf : Bs) (vx vy : Value) (ox oy : Operand), VR w m R Rf x vx → VR w m R Rf y vy →
      ∃ val, (do eqGuard (sel neg .neq .eql) t ox oy vx vy; binOp (sel neg .neq .eql) t vx vy).run P w = .ok val w ∧ VR w m R Rf r val := by
  unfold eqK at H
  split at H
  · rename_i a b
    split at H
    · rename_i hu
      refine ⟨_, H, fun w m R Rf vx vy ox oy hx hy => ?_⟩
      have := hx.v_inv; subst this
      have := hy.v_inv; subst this
      refine ⟨_, ?_, .bool⟩
      simp only [Sem.run_bind, run_eqGuard (P := P) (w := w) (op := sel neg .neq .eql) (t := t) (ox := ox) (oy := oy) (a := .bool a) (b := .bool b) (by simp) (by simp), Result.andThen_ok]
      cases neg <;> simp [sel, binOp, run_equal_bool w t a b hu]
    · cases H
  · rename_i cs ds
    split at H
    · rename_i hc
      simp only [Bool.and_eq_true] at hc
      obtain ⟨⟨ha, hf⟩, hg⟩ := hc
      split at H
      · rename_i b he
        unfold fitT at hf
        split at hf
        · rename_i tys hty
          refine ⟨_, H, fun w m R Rf vx vy ox oy hx hy => ?_⟩
          obtain ⟨ax, rfl, fx⟩ := hx.agg_inv
          obtain ⟨ay, rfl, fy⟩ := hy.agg_inv
          obtain ⟨e1, f1⟩ := fitCs_spec hf fx
          rw [e1] at he
          obtain ⟨f2, e2, e3⟩ := eqCells_spec f1 he fy
          have hr := run_eqCts (P := P) (w := w) 50 10000 t tys (by omega) hty ax.toList ay.toList f1 f2
          simp only [valOf, ha, Array.toArray_toList] at hr
          refine ⟨_, ?_, .bool⟩
          simp only [Sem.run_bind, run_eqGuard (P := P) (w := w) (op := sel neg .neq .eql) (t := t) (ox := ox) (oy := oy) (a := .agg ax) (b := .agg ay) (by simp) (fun _ _ _ _ => by simpa using hg), Result.andThen_ok]
          have hq : (Op.equal t (.agg ax) (.agg ay)).run P w = .ok b w := by rw [e3]; exact hr
          cases neg <;> simp [sel, binOp, hq]
        · cases hf
      · cases H
    · cases H
  · rename_i x y _
    split at H
    · rename_i hp
      split at H
      · rename_i b he
        unfold ptrT at hp
        split at hp
        · rename_i e hu
          refine ⟨_, H, fun w m R Rf vx vy ox oy hx hy => ?_⟩
          have hb : ∃ p q, vx = .pointer p ∧ vy = .pointer q ∧ (p = none ∨ q = none) ∧ (p.isNone && q.isNone) = b := by
            unfold eqPtr at he
            split at he
            · rename_i b' h1 h2
              cases he
              obtain ⟨p, rfl, hp⟩ := isNilP_spec h1 hx.c_inv
              obtain ⟨q, rfl, hq⟩ := isNilP_spec h2 hy.c_inv
              exact ⟨p, q, rfl, rfl, .inl (by simpa using hp), by simp [hp, hq]⟩
            · rename_i h1 h2
              cases he
              obtain ⟨p, rfl, hp⟩ := isNilP_spec h1 hx.c_inv
              obtain ⟨q, rfl, hq⟩ := isNilP_spec h2 hy.c_inv
              exact ⟨p, q, rfl, rfl, .inr (by simpa using hq), by simp [hp, hq]⟩
            · cases he
          obtain ⟨p, q, rfl, rfl, hn, hb⟩ := hb
          refine ⟨_, ?_, .bool⟩
          simp only [Sem.run_bind, run_eqGuard (P := P) (w := w) (op := sel neg .neq .eql) (t := t) (ox := ox) (oy := oy) (a := .pointer p) (b := .pointer q) (by simp) (by simp), Result.andThen_ok]
          have hq := run_equal_ptr (P := P) (w := w) hu hn
          rw [hb] at hq
          rcases hn with rfl | rfl <;> cases neg <;> simp [sel, binOp, hq]
        · cases hp
      · cases H
    · cases H
  · cases H

theorem binK_good {op : BinOp} {t : TypeId} {x y : AV} {K : AV → Option β} {out : β} (H : binK P op t x y K = some out) :
    ∃ r, K r = some out ∧ ∀ (w : World) (m : Lm) (R Rf : Bs) (vx vy : Value) (ox oy : Operand), VR w m R Rf x vx → VR w m R Rf y vy →
      ∃ val, (do eqGuard op t ox oy vx vy; binOp op t vx vy).run P w = .ok val w ∧ VR w m R Rf r val := by
  have conc : ∀ (vx vy : Value), (¬ (vx = .nilIface ∧ vy = .nilIface)) → (∀ a, vx ≠ .agg a) → x = .c (.v vx) → y = .c (.v vy) → ∀ (r : AV) (val : Value), K r = some out → (∀ w, (binOp op t vx vy).run P w = .ok val w) → (∀ w m R Rf, VR w m R Rf r val) →
      ∃ r, K r = some out ∧ ∀ (w : World) (m : Lm) (R Rf : Bs) (vx vy : Value) (ox oy : Operand), VR w m R Rf x vx → VR w m R Rf y vy →
      ∃ val, (do eqGuard op t ox oy vx vy; binOp op t vx vy).run P w = .ok val w ∧ VR w m R Rf r val := by
    rintro vx vy hn ha rfl rfl r val hK hrun hv
    refine ⟨r, hK, fun w m R Rf ux uy ox oy hx hy => ?_⟩
    have := hx.v_inv; subst this
    have := hy.v_inv; subst this
    refine ⟨val, ?_, hv w m R Rf⟩
    simp only [Sem.run_bind, run_eqGuard (P := P) (w := w) (op := op) (t := t) (ox := ox) (oy := oy) (a := ux) (b := uy) hn (fun xs _ e => absurd e (ha xs)), Result.andThen_ok, hrun]
  unfold binK at H
  split at H
  · rename_i k a k' b
    split at H
    · obtain ⟨r, val, h1, h2, h3⟩ := binShift_good (P := P) (k' := k') (.inl rfl) H
      exact conc _ _ (by simp) (by simp) rfl rfl r val h1 (h2 t) h3
    · obtain ⟨r, val, h1, h2, h3⟩ := binShift_good (P := P) (k' := k') (.inr rfl) H
      exact conc _ _ (by simp) (by simp) rfl rfl r val h1 (h2 t) h3
    · split at H
      · rename_i hk
        simp only [decide_eq_true_eq] at hk
        subst hk
        obtain ⟨r, val, h1, h2, h3⟩ := binInt_good (P := P) H
        exact conc _ _ (by simp) (by simp) rfl rfl r val h1 (h2 t) h3
      · cases H
  · rename_i a b
    obtain ⟨r, val, h1, h2, h3⟩ := binStr_good (P := P) H
    exact conc _ _ (by simp) (by simp) rfl rfl r val h1 (h2 t) h3
  · split at H
    · exact eqK_good (neg := false) H
    · exact eqK_good (neg := true) H
    · cases H

theorem unK_good {op : UnOp} {x : AV} {K : AV → Option β} {out : β} (H : unK op x K = some out) :
    ∃ r, K r = some out ∧ ∀ (w : World) (m : Lm) (R Rf : Bs) (vx : Value), VR w m R Rf x vx → ∃ val, (Op.unary op vx).run P w = .ok val w ∧ VR w m R Rf r val := by
  unfold unK at H
  split at H
  · refine ⟨_, H, fun w m R Rf vx hx => ?_⟩
    have := hx.v_inv; subst this
    exact ⟨_, by simp [Op.unary, Op.intArith], .int⟩
  · refine ⟨_, H, fun w m R Rf vx hx => ?_⟩
    have := hx.v_inv; subst this
    exact ⟨_, by simp [Op.unary, Op.intBits], .int⟩
  · refine ⟨_, H, fun w m R Rf vx hx => ?_⟩
    have := hx.v_inv; subst this
    exact ⟨_, by simp [Op.unary], .bool⟩
  · cases H

theorem nilCheck_good {x : AV} {K : AV → Option β} {out : β} (H : nilCheckK x K = some out) :
    K x = some out ∧ ∀ (w : World) (m : Lm) (R Rf : Bs) (vx : Value), VR w m R Rf x vx → (∃ a, vx = .pointer (some a)) ∨ ∃ f a, vx = .func (.func f) #[] a := by
  unfold nilCheckK at H
  split at H
  · exact ⟨H, fun w m R Rf vx hx => by cases hx.c_inv <;> exact .inl ⟨_, rfl⟩⟩
  · exact ⟨H, fun w m R Rf vx hx => by cases hx.c_inv; exact .inl ⟨_, rfl⟩⟩
  · exact ⟨H, fun w m R Rf vx hx => by cases hx.c_inv; exact .inr ⟨_, _, rfl⟩⟩
  · cases H

theorem selK_good {b : Bool} {x y : AV} {K : AV → Option β} {out : β} (H : selK b x y K = some out) :
    ∃ r, K r = some out ∧ ∀ (w : World) (m : Lm) (R Rf : Bs) (vx vy : Value), VR w m R Rf x vx → VR w m R Rf y vy → VR w m R Rf r (if b then vx else vy) := by
  unfold selK at H
  split at H
  · refine ⟨_, H, fun w m R Rf vx vy hx hy => ?_⟩
    have := hx.v_inv; subst this
    have := hy.v_inv; subst this
    cases b <;> exact .bool
  · split at H
    · rename_i hk
      simp only [decide_eq_true_eq] at hk
      subst hk
      refine ⟨_, H, fun w m R Rf vx vy hx hy => ?_⟩
      have := hx.v_inv; subst this
      have := hy.v_inv; subst this
      cases b <;> exact .int
    · cases H
  · rcases ite_some H with ⟨rfl, H⟩ | ⟨rfl, H⟩
    · exact ⟨_, H, fun w m R Rf vx vy hx hy => hx⟩
    · exact ⟨_, H, fun w m R Rf vx vy hx hy => hy⟩
end Go.AM

namespace Go.AM
open Go.RowKit

variable {B : Base} {w w' : World} {m : Lm} {R Rf : Bs} {h : Tr Buf} {P : Program} {β : Type}

/-! ### Rows -/
abbrev ER (w : World) (R : Bs) := Fa (Fa (CR w noL R R))

theorem flat_get {sz : Nat} : ∀ {vss : List (List Value)}, (∀ v ∈ vss, v.length = sz) → ∀ (i k : Nat) (v : List Value) (u : Value), vss[i]? = some v → v[k]? = some u → vss.flatten[i * sz + k]? = some u
  | [], _, i, k, v, u, hv, hu => by simp at hv
  | x :: r, hs, 0, k, v, u, hv, hu => by
    simp at hv; subst hv
    have hk : k < x.length := (List.getElem?_eq_some_iff.1 hu).1
    simp [List.getElem?_append_left hk, hu]
  | x :: r, hs, i + 1, k, v, u, hv, hu => by
    simp at hv
    have hx : x.length = sz := hs x (by simp)
    have := flat_get (fun v hv => hs v (by simp [hv])) i k v u hv hu
    rw [List.flatten_cons, List.getElem?_append_right (by rw [hx, Nat.succ_mul]; omega), hx, show (i + 1) * sz + k - sz = i * sz + k by rw [Nat.succ_mul]; omega]
    exact this
theorem flat_len {sz : Nat} : ∀ {vss : List (List Value)}, (∀ v ∈ vss, v.length = sz) → vss.flatten.length = vss.length * sz
  | [], _ => by simp
  | x :: r, hs => by
    have hx : x.length = sz := hs x (by simp)
    have := flat_len (vss := r) fun v hv => hs v (by simp [hv])
    simp only [List.flatten_cons, List.length_append, this, hx, List.length_cons, Nat.succ_mul]; omega
theorem ER.widths {R : Bs} {sz : Nat} {es : List (List AC)} {vss : List (List Value)} (hf : ER w R es vss) (hs : ∀ e ∈ es, e.length = sz) : ∀ v ∈ vss, v.length = sz := fun v hv => by
  obtain ⟨e, he, hr⟩ := hf.mem v hv
  rw [← hr.length]; exact hs e he
theorem ER.scalars {R : Bs} {es : List (List AC)} {vss : List (List Value)} (hf : ER w R es vss) : ∀ v ∈ vss.flatten, scalarV v = true := fun v hv => by
  obtain ⟨x, hx, hv⟩ := List.mem_flatten.1 hv
  obtain ⟨e, he, hr⟩ := hf.mem x hx
  exact Fa.scalars hr v hv

theorem EsAt.of_flat {R : Bs} {b o sz : Nat} {es : List (List AC)} {vss : List (List Value)} (hf : ER w R es vss) (hs : ∀ e ∈ es, e.length = sz)
    (hc : ∀ (j : Nat) (u : Value), vss.flatten[j]? = some u → w.cell? ⟨b, o + j, none⟩ = some u) : EsAt w R b o sz es := by
  intro i e he k x hx
  obtain ⟨v, hv, hr⟩ := hf.get i e he
  obtain ⟨u, hu, hru⟩ := hr.get k x hx
  exact ⟨u, by have := hc _ _ (flat_get (hf.widths hs) i k v u hv hu); rw [show o + i * sz + k = o + (i * sz + k) by omega]; exact this, hru⟩
theorem EsAt.tail {R : Bs} {b o sz : Nat} {e : List AC} {es : List (List AC)} (H : EsAt w R b o sz (e :: es)) : EsAt w R b (o + sz) sz es := by
  intro i e' he k x hx
  have := H (i + 1) e' (by simpa using he) k x hx
  rwa [show o + (i + 1) * sz + k = o + sz + i * sz + k by rw [Nat.succ_mul]; omega] at this
theorem EsAt.vals {R : Bs} {b sz : Nat} : ∀ {o : Nat} {es : List (List AC)}, EsAt w R b o sz es → (∀ e ∈ es, e.length = sz) →
    ∃ vss : List (List Value), ER w R es vss ∧ ∀ (j : Nat) (u : Value), vss.flatten[j]? = some u → w.cell? ⟨b, o + j, none⟩ = some u
  | o, [], _, _ => ⟨[], .nil, fun j u hu => by simp at hu⟩
  | o, e :: es, H, hs => by
    have h0 : CsAt w noL R R b o e := by have := H 0 e rfl; simpa using this
    obtain ⟨vs, hf, hv⟩ := h0.vals
    obtain ⟨vss, hf', hv'⟩ := EsAt.vals (es := es) H.tail fun e he => hs e (by simp [he])
    refine ⟨vs :: vss, .cons hf hf', fun j u hu => ?_⟩
    have hl : vs.length = sz := by rw [← hf.length]; exact hs e (by simp)
    rw [List.flatten_cons] at hu
    by_cases hj : j < vs.length
    · rw [List.getElem?_append_left hj] at hu; exact hv j u hu
    · rw [List.getElem?_append_right (by omega)] at hu
      have := hv' _ _ hu
      rwa [hl, show o + sz + (j - sz) = o + j by omega] at this
theorem EsAt.part {R : Bs} {b o sz : Nat} {es : List (List AC)} (H : EsAt w R b o sz es) (i n : Nat) : EsAt w R b (o + i * sz) sz ((es.drop i).take n) := by
  intro j e he
  rw [List.getElem?_take] at he
  split at he
  · rw [List.getElem?_drop] at he
    have := H (i + j) e he
    rwa [show o + (i + j) * sz = o + i * sz + j * sz by rw [Nat.add_mul]; omega] at this
  · cases he
theorem part_mem {es : List (List AC)} {i n : Nat} {e : List AC} (h : e ∈ (es.drop i).take n) : e ∈ es := List.mem_of_mem_drop (List.mem_of_mem_take h)

theorem CR.of_es {m : Lm} {R Rf : Bs} {fr : Bool} {es : List (List AC)} {b o cap sz : Nat} (hb : sel fr Rf R b) (hc : es.length ≤ cap) (hs : ∀ e ∈ es, e.length = sz) (H : EsAt w (sel fr Rf R) b o sz es) :
    CR w m R Rf (.ro fr es) (.slice (some ⟨b, o, none⟩) es.length cap) := by
  refine .ro (fun i k => (w.cell? ⟨b, o + i * sz + k, none⟩).getD undef) hb hc hs (fun i e he k hk => ?_) (fun i e he k x hx => ?_)
  · have hl : e.length = sz := hs e (List.mem_of_getElem? he)
    obtain ⟨u, hu, _⟩ := H i e he k (e[k]'(by omega)) (List.getElem?_eq_getElem _)
    rw [hu]; rfl
  · obtain ⟨u, hu, hr⟩ := H i e he k x hx
    rw [hu]; exact hr
/-- A slice's elements as they lie. -/
def Src (w : World) (R : Bs) (es : List (List AC)) (A : Option Addr) (sz : Nat) : Prop :=
  es = [] ∨ ∃ b o, A = some ⟨b, o, none⟩ ∧ (∀ e ∈ es, e.length = sz) ∧ EsAt w R b o sz es
theorem CR.ro_inv {fr : Bool} {es : List (List AC)} {v : Value} (H : CR w m R Rf (.ro fr es) v) :
    ∃ A cap sz, v = .slice A es.length cap ∧ es.length ≤ cap ∧ Src w (sel fr Rf R) es A sz ∧ (es = [] ∨ ∃ b o, A = some ⟨b, o, none⟩ ∧ sel fr Rf R b) := by
  cases H with
  | ro0 => exact ⟨_, _, 0, rfl, Nat.zero_le _, .inl rfl, .inl rfl⟩
  | ro vs hb hc hs h1 h2 =>
    refine ⟨_, _, _, rfl, hc, .inr ⟨_, _, rfl, hs, fun i e he k x hx => ?_⟩, .inr ⟨_, _, rfl, hb⟩⟩
    have hk : k < e.length := (List.getElem?_eq_some_iff.1 hx).1
    exact ⟨vs i k, h1 i e he k (by rw [hs e (List.mem_of_getElem? he)] at hk; exact hk), h2 i e he k x hx⟩

theorem sel_mono {R R' Rf Rf' : Bs} (h1 : ∀ k, R k → R' k) (h2 : ∀ k, Rf k → Rf' k) (b : Bool) {k : Nat} (h : sel b Rf R k) : sel b Rf' R' k := by cases b <;> first | exact h1 k h | exact h2 k h

/-- What a slice's elements are read as. -/
theorem rowOf_spec {h : Tr Buf} {hD : Tr Buf} {x : AC} {fr : Bool} {oz : Option Nat} {es : List (List AC)} {rd : List Nat} (hr : rowOf h x = some (fr, oz, es, rd)) (hag : ∀ i ∈ rd, hD.get i = h.get i)
    (I : Inv B w m R Rf hD) {v : Value} (hv : CR w m R Rf x v) :
    ∃ A cap sz, v = .slice A es.length cap ∧ es.length ≤ cap ∧ Src w (sel fr Rf R) es A sz ∧ (∀ z, oz = some z → z = sz) := by
  unfold rowOf at hr
  split at hr
  · cases hr
    obtain ⟨A, cap, sz, h1, h2, h3, _⟩ := hv.ro_inv
    exact ⟨A, cap, sz, h1, h2, h3, fun z hz => by cases hz⟩
  · rename_i id
    split at hr
    · rename_i cl sz es' hg
      cases hr
      have hbr := I.br id _ ((hag id (by simp)).trans hg)
      rcases hbr with ⟨rfl, hm⟩ | ⟨b, base, N, hm, hW, hN, hs, hE⟩
      · cases hv with
        | ref0 hm' => exact ⟨_, _, sz, rfl, Nat.zero_le _, .inl rfl, fun z hz => by cases hz; rfl⟩
        | ref hm' hn hsh hc => rw [hm] at hm'; cases hm'
      · cases hv with
        | ref0 hm' => rw [hm] at hm'; cases hm'
        | ref hm' hn hsh hc => rw [hm] at hm'; cases hm'; exact ⟨_, _, _, rfl, hn, .inr ⟨_, _, rfl, hs, hE⟩, fun z hz => by cases hz; rfl⟩
    · cases hr
  · rename_i id off len
    split at hr
    · rename_i cl sz es' hg
      cases hr
      have hbr := I.br id _ ((hag id (by simp)).trans hg)
      rcases hbr with ⟨rfl, hm⟩ | ⟨b, base, N, hm, hW, hN, hs, hE⟩
      · cases hv with
        | sub0 hm' => exact ⟨none, 0, sz, by simp, by simp, .inl (by simp), fun z hz => by cases hz; rfl⟩
        | subE hm' hn _ _ => rw [hm] at hm'; cases hm'
        | sub hm' hn hl hsh hc => rw [hm] at hm'; cases hm'
      · cases hv with
        | sub0 hm' => rw [hm] at hm'; cases hm'
        | subE hm' hn _ _ => exact ⟨_, 0, sz, by simp; rfl, by simp, .inl (by simp), fun z hz => by cases hz; rfl⟩
        | sub hm' hn hl hsh hc =>
          rw [hm] at hm'; cases hm'
          have hlen : ((es'.drop off).take len).length = len := by simp; omega
          exact ⟨_, _, _, by rw [hlen], by rw [hlen]; exact hl, .inr ⟨_, _, rfl, fun e he => hs e (part_mem he), hE.part off len⟩, fun z hz => by cases hz; rfl⟩
    · cases hr
  · cases hr
    cases hv with
    | v _ => exact ⟨none, 0, 0, rfl, Nat.le_refl _, .inl rfl, fun z hz => by cases hz⟩
  · cases hr

theorem run_firstCells {es : List (List AC)} {R : Bs} {A : Option Addr} {sz n cap : Nat} (hS : Src w R es A sz) (hsz : es = [] ∨ sz = n) (len : Nat) (hl : len = es.length) :
    ∃ vss, ER w R es vss ∧ (Builtin.firstCells n len (.slice A len cap)).run P w = .ok vss.flatten.toArray w ∧ (∀ e ∈ es, e.length = n) := by
  rcases hS with rfl | ⟨b, o, rfl, hs, hE⟩
  · refine ⟨[], .nil, ?_, by simp⟩
    subst hl
    cases A <;> simp [Builtin.firstCells, loadCells, loadCellsFrom]
  · obtain ⟨vss, hf, hv⟩ := hE.vals hs
    refine ⟨vss, hf, ?_, ?_⟩
    · have hlen : vss.flatten.length = len * n := by
        rw [flat_len (hf.widths hs), ← hf.length, hl]
        rcases hsz with rfl | rfl
        · simp
        · rfl
      simp only [Builtin.firstCells]
      rw [← hlen]
      exact run_load_at hv
    · rcases hsz with rfl | rfl
      · simp
      · exact hs
end Go.AM

namespace Go.AM
open Go.RowKit

variable {B : Base} {w w' : World} {m : Lm} {R Rf : Bs} {h : Tr Buf} {P : Program} {β : Type}

def applyU : List (Nat × Option Buf) → Tr Buf → Tr Buf
  | [], h => h
  | (i, some b) :: r, h => applyU r (h.set i b)
  | (i, none) :: r, h => applyU r (h.del i)

/-- What an operation leaves. -/
def Post (B : Base) (id : Nat) (U : List (Nat × Option Buf)) (hD : Tr Buf) (v : AV) (w : World) (m : Lm) (R Rf : Bs) (val : Value) (w' : World) : Prop :=
  ∃ m' R' Rf', Inv B w' m' R' Rf' (applyU U hD) ∧ VR w' m' R' Rf' v val ∧ Ext w w' m m' R R' Rf Rf' ∧ ∀ i, i ≠ id → m' i = m i

theorem Post.same {B : Base} {id : Nat} {hD : Tr Buf} {v : AV} {val : Value} (I : Inv B w m R Rf hD) (hv : VR w m R Rf v val) : Post B id [] hD v w m R Rf val w :=
  ⟨m, R, Rf, I, hv, Ext.refl w m R Rf I.sub, fun _ _ => rfl⟩

/-- The operation 'x' of the model does what the machine says. -/
def Does (B : Base) (P : Program) (id : Nat) (U : List (Nat × Option Buf)) (h : Tr Buf) (rd wr : List Nat) (v : AV) (hyp : World → Lm → Bs → Bs → Prop) (x : World → Sem Value) : Prop :=
  (∀ k ∈ U.map (·.1), k = id ∨ k ∈ wr) ∧
  ∀ (w : World) (m : Lm) (R Rf : Bs) (hD : Tr Buf), hyp w m R Rf → (∀ i ∈ rd ++ wr, hD.get i = h.get i) → B.p ≤ id → m id = none → Inv B w m R Rf hD →
    ∃ val w', (x w).run P w = .ok val w' ∧ Post B id U hD v w m R Rf val w'

def updM (m : Lm) (id : Nat) (l : Loc) : Lm := fun i => if i = id then some l else m i
theorem updM_same (m : Lm) (id : Nat) (l : Loc) : updM m id l id = some l := by simp [updM]
theorem updM_ne (m : Lm) {id i : Nat} (l : Loc) (h : i ≠ id) : updM m id l i = m i := by simp [updM, h]

theorem Ext.new (I : Inv B w m R Rf h) (M : More w w') {id : Nat} {l : Loc} (hn : m id = none) : Ext w w' m (updM m id l) R R Rf Rf :=
  ⟨fun k hk => M.heap k (I.rlt k hk), fun _ => _root_.id, fun _ => _root_.id, I.sub, fun i l' hi => by
    by_cases e : i = id
    · subst e; rw [hn] at hi; cases hi
    · rw [updM_ne m l e]; exact hi, fun _ _ _ hs => M.shape hs⟩

theorem Inv.new (I : Inv B w m R Rf h) (M : More w w') {id b : Nat} (hp : B.p ≤ id) (hn : m id = none) {l : Loc} (hl : l.blk = some b) (h1 : w.heap.size ≤ b) (h2 : b < w'.heap.size) {x : Buf}
    (hx : BR w' (updM m id l) R Rf id x) : Inv B w' (updM m id l) R Rf (h.set id x) :=
  ((I.more M).1.adopt (I.freeNew M h1 h2) (But.refl b w') (.inl hp) (updM_same m id l) hl (.inl hn) (fun i hi => updM_ne m l hi) hx).1

def pushC (w : World) (c : Array Value) (t : TypeId) : World := { w with heap := w.heap.push (.cells c t) }
theorem More.pushC (w : World) (c : Array Value) (t : TypeId) : More w (pushC w c t) := More.push w _
theorem pushC_at (w : World) (c : Array Value) (t : TypeId) : (pushC w c t).heap[w.heap.size]? = some (.cells c t (0, 0)) := by
  show (w.heap.push (.cells c t))[w.heap.size]? = _
  exact Array.getElem?_push_size
theorem pushC_cell (w : World) (c : Array Value) (t : TypeId) (k : Nat) : (pushC w c t).cell? ⟨w.heap.size, k, none⟩ = c[k]? := by
  unfold World.cell?
  simp only [pushC_at, Option.isSome_none, Bool.false_eq_true, if_false]
theorem pushC_wr (w : World) (c : Array Value) (t : TypeId) : Wr (pushC w c t) w.heap.size c.size :=
  ⟨c, t, (0, 0), pushC_at w c t, rfl, fun o ho => by
    unfold World.frozen?
    simp only [pushC_at]
    simp⟩
theorem pushC_size (w : World) (c : Array Value) (t : TypeId) : (pushC w c t).heap.size = w.heap.size + 1 := by simp [pushC]
theorem pushC_shape (w : World) (c : Array Value) (t : TypeId) : (pushC w c t).shape? w.heap.size = some (t, c.size) := by
  unfold World.shape?
  simp only [pushC_at]
theorem run_newVar (w : World) (t : TypeId) (v : Value) : (newVar t v).run P w = .ok ⟨w.heap.size, 0, none⟩ (pushC w v.cells t) := rfl
theorem run_newRow (w : World) (t : TypeId) (c : Array Value) : (newRow t c).run P w = .ok ⟨w.heap.size, 0, none⟩ (pushC w c t) := rfl

/-- A new object. -/
theorem Post.obj {id : Nat} {t t' : TypeId} {cs : List AC} {c : Array Value} (I : Inv B w m R Rf h) (hp : B.p ≤ id) (hn : m id = none) (hf : Fa (CR w m R Rf) cs c.toList) :
    Post B id [(id, some (.obj t cs))] h (.c (.ptr id 0 0)) w m R Rf (.pointer (some ⟨w.heap.size, 0, none⟩)) (pushC w c t') := by
  have M := More.pushC w c t'
  have E : Ext w (pushC w c t') m (updM m id (.obj w.heap.size 0)) R R Rf Rf := Ext.new I M hn
  refine ⟨_, R, Rf, I.new M hp hn (l := .obj w.heap.size 0) rfl (Nat.le_refl _) (by rw [pushC_size]; omega) ?_, ?_, E, fun i hi => updM_ne m _ hi⟩
  · refine ⟨w.heap.size, 0, c.size, updM_same _ _ _, pushC_wr w c t', by have := hf.length; simp at this; omega, ?_⟩
    exact CsAt.of_vals (hf.mono fun _ _ hr => hr.mono E) fun k u hu => by rw [Nat.zero_add, pushC_cell]; simpa using hu
  · exact .c (.ptrO (updM_same _ _ _))

/-- A new row. -/
theorem Post.row {id : Nat} {t' : TypeId} {cl : Bool} {sz n cap : Nat} {es : List (List AC)} {vss : List (List Value)} {c : Array Value} (I : Inv B w m R Rf h) (hp : B.p ≤ id) (hn : m id = none)
    (hf : ER w (sel cl Rf R) es vss) (hs : ∀ e ∈ es, e.length = sz) (hc : ∀ (j : Nat) (u : Value), vss.flatten[j]? = some u → c[j]? = some u) (hl : n = es.length) (hcap : n ≤ cap) (hsz : cap * sz ≤ c.size) :
    Post B id [(id, some (.row cl sz es))] h (.c (.ref id)) w m R Rf (.slice (some ⟨w.heap.size, 0, none⟩) n cap) (pushC w c t') := by
  have M := More.pushC w c t'
  subst hl
  have E : Ext w (pushC w c t') m (updM m id (.row w.heap.size 0 sz es.length)) R R Rf Rf := Ext.new I M hn
  refine ⟨_, R, Rf, I.new M hp hn (l := .row w.heap.size 0 sz es.length) rfl (Nat.le_refl _) (by rw [pushC_size]; omega) ?_, ?_, E, fun i hi => updM_ne m _ hi⟩
  · refine .inr ⟨w.heap.size, 0, c.size, updM_same _ _ _, pushC_wr w c t', ?_, hs, ?_⟩
    · have := Nat.mul_le_mul_right sz hcap; omega
    · refine EsAt.of_flat (vss := vss) (hf.mono fun _ _ hr => hr.mono fun _ _ hr => hr.mono (E.sel cl)) hs fun j u hu => ?_
      rw [Nat.zero_add, pushC_cell]; exact hc j u hu
  · exact .c (.ref (updM_same _ _ _) hcap (pushC_shape w c t') (by omega))

/-- An empty row without memory. -/
theorem Post.nilRow {id sz : Nat} {cl : Bool} (I : Inv B w m R Rf h) (hp : B.p ≤ id) (hn : m id = none) :
    Post B id [(id, some (.row cl sz []))] h (.c (.ref id)) w m R Rf (.slice none 0 0) w := by
  obtain ⟨I', E⟩ := I.name (m' := updM m id .nil) (l := .nil) (x := .row cl sz []) (.inl hp) (updM_same _ _ _) rfl (.inl hn) (fun i hi => updM_ne m _ hi) (.inl ⟨rfl, updM_same _ _ _⟩)
  exact ⟨_, R, Rf, I', .c (.ref0 (updM_same _ _ _)), E, fun i hi => updM_ne m _ hi⟩

theorem allocK_good {st : Bool} {id : Nat} {t : TypeId} {s : S} {K : KT β} {out : β} (H : allocK st P id t s K = some out) :
    ∃ v U rd wr, K v { s with h := applyU U s.h } rd wr = some out ∧ Does B P id U s.h rd wr v (fun _ _ _ _ => True) fun _ => Instr.alloc t true (.tuple #[]) := by
  unfold allocK at H
  split at H
  · rename_i cs hz
    rw [putH_eq] at H
    obtain ⟨i, z, hi, hz1, rfl, hs, hn⟩ := zeroCs_spec hz
    refine ⟨_, [(id, some (.obj t (z.cells.toList.map .v)))], [], [], H, by simp, fun w m R Rf hD _ hag hp hm I => ?_⟩
    refine ⟨_, _, ?_, Post.obj (t' := t) (c := z.cells) I hp hm (Fa.of_v hs)⟩
    simp only [Instr.alloc, Sem.run_bind, run_zero hi hz1, Result.andThen_ok, run_newVar, Sem.run_pure]
  · cases H

theorem boxK_good {st : Bool} {id : Nat} {t : TypeId} {x : AV} {s : S} {K : KT β} {out : β} (H : boxK st id t x s K = some out) :
    ∃ v U rd wr, K v { s with h := applyU U s.h } rd wr = some out ∧ ∀ vx, Does B P id U s.h rd wr v (fun w m R Rf => VR w m R Rf x vx) fun _ => Instr.box t vx := by
  unfold boxK at H
  split at H
  · rename_i cs hc
    rw [putH_eq] at H
    refine ⟨_, [(id, some (.obj t cs))], [], [], H, fun vx => ⟨by simp, fun w m R Rf hD hx hag hp hm I => ?_⟩⟩
    refine ⟨_, _, ?_, Post.obj (t' := t) (c := vx.cells) I hp hm (hx.cells hc)⟩
    simp only [Instr.box, Sem.run_bind, run_newVar, Result.andThen_ok, Sem.run_pure]
  · cases H

theorem ofCells_good {t : TypeId} {cs : List AC} {v : AV} (H : ofCells P t cs = some v) {us : List Value} (hf : Fa (CR w m R Rf) cs us) :
    (aggT P t = true ∧ VR w m R Rf v (.agg us.toArray)) ∨ (aggT P t = false ∧ ∃ u, us = [u] ∧ VR w m R Rf v u) := by
  unfold ofCells at H
  split at H
  · rename_i ha
    cases H
    exact .inl ⟨ha, .agg _ (by simpa using hf)⟩
  · rename_i ha
    split at H
    · cases H
      cases hf with
      | cons hr ht => cases ht; exact .inr ⟨ha, _, rfl, .c hr⟩
    · cases H

/-- A variable is read. -/
theorem run_loadVar {t : TypeId} {u : TypeDesc} {b o : Nat} {us : List Value} {v : AV} {cs : List AC} (hu : P.underlying t = some u) (hl : us.length = P.cellsOf t) (hv : ofCells P t cs = some v) (hf : Fa (CR w m R Rf) cs us)
    (hc : ∀ (k : Nat) (x : Value), us[k]? = some x → w.cell? ⟨b, o + k, none⟩ = some x) : ∃ val, (loadVar t ⟨b, o, none⟩).run P w = .ok val w ∧ VR w m R Rf v val := by
  obtain ⟨i, hi⟩ := info_of_under hu
  unfold loadVar
  simp only [Sem.run_bind, run_isAgg hu, Result.andThen_ok]
  rcases ofCells_good hv hf with ⟨ha, hr⟩ | ⟨ha, x, rfl, hr⟩
  · refine ⟨_, ?_, hr⟩
    simp only [ha, if_true, Sem.run_bind, run_size hi, Result.andThen_ok]
    rw [← hl, run_load_at hc]
    rfl
  · refine ⟨_, ?_, hr⟩
    simp only [ha, Bool.false_eq_true, if_false]
    have := hc 0 x rfl
    rw [Nat.add_zero] at this
    simp [run_load, this]
end Go.AM

namespace Go.AM
open Go.RowKit

variable {B : Base} {w w' : World} {m : Lm} {R Rf : Bs} {h : Tr Buf} {P : Program} {β : Type}

theorem okT_spec {t : TypeId} (h : okT P t = true) : ∃ u, P.underlying t = some u := by
  unfold okT at h
  split at h
  · exact ⟨_, ‹_›⟩
  · cases h

theorem applyU_append : ∀ (U V : List (Nat × Option Buf)) (h : Tr Buf), applyU (U ++ V) h = applyU V (applyU U h)
  | [], _, _ => rfl
  | (i, some b) :: r, V, h => by simp [applyU, applyU_append r V]
  | (i, none) :: r, V, h => by simp [applyU, applyU_append r V]
def dels (ids : List Nat) : List (Nat × Option Buf) := ids.map fun i => (i, none)
theorem applyU_dels : ∀ (ids : List Nat) (h : Tr Buf), applyU (dels ids) h = delAll h ids
  | [], _ => rfl
  | i :: r, h => by
    show applyU ((i, none) :: dels r) h = _
    rw [applyU, applyU_dels r]; rfl

/-! ### Cells that are read out of rows -/
theorem ExtR {Rs : Bs} (hs : ∀ k, Rs k → R k) : Ext w w noL noL Rs R Rs R := ⟨fun _ _ => rfl, hs, hs, fun _ => id, fun _ _ => id, fun _ _ _ => id⟩
theorem sel_sub (I : ∀ k, Rf k → R k) (fr : Bool) : ∀ k, sel fr Rf R k → R k := fun k hk => by cases fr <;> first | exact hk | exact I k hk

theorem src_es {es : List (List AC)} {Rs : Bs} {f : Bool} {u : Value} (H : CR w noL Rs Rs (.ro f es) u) {fr : Bool} (hR : Rs = sel fr Rf R) : CR w m R Rf (.ro fr es) u := by
  obtain ⟨A, cap, sz, rfl, hc, hS, hb⟩ := H.ro_inv
  have hss : sel f Rs Rs = sel fr Rf R := by cases f <;> simp [sel, hR]
  rcases hS with rfl | ⟨b, o, rfl, hsz, hE⟩
  · exact .ro0
  · rcases hb with rfl | ⟨b', o', e, hb⟩
    · exact .ro0
    · cases e
      rw [hss] at hE hb
      exact CR.of_es hb hc hsz hE

theorem castOne_good {fr : Bool} {cs : List AC} {i : Nat} {K : AC → Option β} {t : CT} {out : β} (H : castOne fr cs i K t = some out) :
    ∃ x, K x = some out ∧ ∃ c, cs[i]? = some c ∧ ∀ (w : World) (m : Lm) (R Rf : Bs) (u : Value), (∀ k, Rf k → R k) → CR w noL (sel fr Rf R) (sel fr Rf R) c u → CR w m R Rf x u := by
  cases t
  case int k =>
    obtain ⟨n, hn, hK⟩ := bnd_some H
    refine ⟨_, hK, ?_⟩
    unfold cInt at hn
    split at hn
    · rename_i k' n' hc
      split at hn
      · rename_i hk
        simp only [decide_eq_true_eq] at hk
        cases hn; subst hk
        exact ⟨_, hc, fun w m R Rf u _ hr => by cases hr; exact .v rfl⟩
      · cases hn
    · cases hn
  case bool =>
    obtain ⟨n, hn, hK⟩ := bnd_some H
    refine ⟨_, hK, ?_⟩
    unfold cBool at hn
    split at hn
    · rename_i b hc
      cases hn
      exact ⟨_, hc, fun w m R Rf u _ hr => by cases hr; exact .v rfl⟩
    · cases hn
  case str =>
    obtain ⟨n, hn, hK⟩ := bnd_some H
    refine ⟨_, hK, ?_⟩
    unfold cStr at hn
    split at hn
    · rename_i b hc
      cases hn
      exact ⟨_, hc, fun w m R Rf u _ hr => by cases hr; exact .v rfl⟩
    · cases hn
  case sl sz =>
    obtain ⟨n, hn, hK⟩ := bnd_some H
    refine ⟨_, hK, ?_⟩
    unfold cRo at hn
    split at hn
    · rename_i f es hc
      cases hn
      exact ⟨_, hc, fun w m R Rf u _ hr => src_es hr rfl⟩
    · rename_i hc
      cases hn
      exact ⟨_, hc, fun w m R Rf u _ hr => by cases hr; exact .ro0⟩
    · cases hn
  all_goals
    obtain ⟨n, hn, hK⟩ := bnd_some H
    refine ⟨_, hK, ?_⟩
    unfold cPt at hn
    split at hn
    · rename_i x hc
      cases hn
      exact ⟨_, hc, fun w m R Rf u _ hr => by cases hr; exact .v ‹_›⟩
    · rename_i f ds o hc
      cases hn
      refine ⟨_, hc, fun w m R Rf u hs hr => ?_⟩
      have hss : ∀ f', sel f' (sel fr Rf R) (sel fr Rf R) = sel fr Rf R := fun f' => by cases f' <;> rfl
      cases hr with
      | rp vs hb h1 h2 =>
        rw [hss] at hb
        refine .rp vs (sel_sub hs fr _ hb) h1 fun k x hx => ?_
        have := h2 k x hx
        rw [hss] at this
        exact this.mono (ExtR (sel_sub hs fr))
    · cases hn

theorem castK_good {fr : Bool} {cs : List AC} : ∀ {ts : List CT} {i : Nat} {K : List AC → Option β} {out : β}, castK fr cs ts i K = some out →
    ∃ xs, K xs = some out ∧ xs.length = ts.length ∧ ∀ (j : Nat) (x : AC), xs[j]? = some x → ∃ c, cs[i + j]? = some c ∧
      ∀ (w : World) (m : Lm) (R Rf : Bs) (u : Value), (∀ k, Rf k → R k) → CR w noL (sel fr Rf R) (sel fr Rf R) c u → CR w m R Rf x u := by
  intro ts
  induction ts with
  | nil => intro i K out H; exact ⟨[], H, rfl, fun j x hx => by simp at hx⟩
  | cons t ts ih =>
    intro i K out H
    unfold castK at H
    obtain ⟨x, hx, c, hc, hr⟩ := castOne_good H
    obtain ⟨xs, hK, hl, hxs⟩ := ih hx
    refine ⟨x :: xs, hK, by simp [hl], fun j y hy => ?_⟩
    cases j with
    | zero => simp at hy; subst hy; exact ⟨c, hc, hr⟩
    | succ j =>
      simp at hy
      obtain ⟨d, hd, hr⟩ := hxs j y hy
      exact ⟨d, by rw [show i + (j + 1) = i + 1 + j by omega]; exact hd, hr⟩

/-- The cells that were cast, and what lies there. -/
theorem cast_vals {fr : Bool} {cs xs : List AC} {o b base : Nat} (hs : ∀ k, Rf k → R k)
    (hx : ∀ (j : Nat) (x : AC), xs[j]? = some x → ∃ c, cs[o + j]? = some c ∧ ∀ (w : World) (m : Lm) (R Rf : Bs) (u : Value), (∀ k, Rf k → R k) → CR w noL (sel fr Rf R) (sel fr Rf R) c u → CR w m R Rf x u)
    (hc : CsAt w noL (sel fr Rf R) (sel fr Rf R) b base cs) : CsAt w m R Rf b (base + o) xs := fun j x hj => by
  obtain ⟨c, h1, h2⟩ := hx j x hj
  obtain ⟨u, hu, hr⟩ := hc _ _ h1
  exact ⟨u, by rw [show base + o + j = base + (o + j) by omega]; exact hu, h2 w m R Rf u hs hr⟩

theorem getE_spec {es : List (List AC)} {i sz : Nat} {e : List AC} (H : getE es i sz = some e) : es[i]? = some e ∧ e.length = sz := by
  unfold getE at H
  split at H
  · rename_i e' he
    split at H
    · rename_i hl
      cases H
      exact ⟨he, Nat.eq_of_beq_eq_true hl⟩
    · cases H
  · cases H

theorem CR.rp_inv {fr : Bool} {cs : List AC} {off : Nat} {v : Value} (H : CR w m R Rf (.rp fr cs off) v) :
    ∃ b o, v = .pointer (some ⟨b, o + off, none⟩) ∧ sel fr Rf R b ∧ CsAt w noL (sel fr Rf R) (sel fr Rf R) b o cs := by
  cases H with
  | rp vs hb h1 h2 => exact ⟨_, _, rfl, hb, fun k x hx => ⟨vs k, h1 k (List.getElem?_eq_some_iff.1 hx).1, h2 k x hx⟩⟩

theorem loadK_good {id : Nat} {t : TypeId} {a : AC} {s : S} {K : KT β} {out : β} (H : loadK P t a s K = some out) :
    ∃ v rd, K v s rd [] = some out ∧ ∀ va, Does B P id [] s.h rd [] v (fun w m R Rf => CR w m R Rf a va) fun _ => Instr.loadAt t va := by
  unfold loadK at H
  split at H
  · cases H
  · rename_i hok
    obtain ⟨u, hu⟩ := okT_spec hok
    split at H
    · rename_i id' i o
      split at H
      · rename_i t' cs hg
        split at H
        · rename_i hc
          rw [Bool.and_eq_true] at hc
          have hi := Nat.eq_of_beq_eq_true hc.1
          have ho := Nat.le_of_ble_eq_true hc.2
          subst hi
          split at H
          · rename_i v hv
            refine ⟨v, [id'], H, fun va => ⟨by simp, fun w m R Rf hD hx hag hp hm I => ?_⟩⟩
            have hbr := I.br id' _ ((hag id' (by simp)).trans hg)
            obtain ⟨b, base, N, hm', hW, hN, hcs⟩ := hbr
            cases hx with
            | ptrR hm2 _ => rw [hm'] at hm2; cases hm2
            | ptrO hm2 =>
              rw [hm'] at hm2; cases hm2
              have hp := hcs.part o (P.cellsOf t)
              obtain ⟨vs, hf, hvs⟩ := hp.vals
              obtain ⟨val, hrun, hr⟩ := run_loadVar (P := P) (w := w) (m := m) (R := R) (Rf := Rf) (b := b) (o := base + o) hu (by rw [← hf.length]; simp; omega) hv hf hvs
              exact ⟨val, w, by simp only [Instr.loadAt, Instr.sureAddr, Sem.run_bind, Sem.run_pure, Result.andThen_ok, hrun], Post.same I hr⟩
          · cases H
        · cases H
      · rename_i cl sz es hg
        split at H
        · rename_i hc
          rw [Bool.and_eq_true] at hc
          have hl := Nat.eq_of_beq_eq_true hc.1
          have ho := Nat.le_of_ble_eq_true hc.2
          obtain ⟨e, he, H⟩ := bnd_some H
          obtain ⟨he1, he2⟩ := getE_spec he
          obtain ⟨xs, H, hxl, hxs⟩ := castK_good H
          split at H
          · rename_i v hv
            refine ⟨v, [id'], H, fun va => ⟨by simp, fun w m R Rf hD hx hag hp hm I => ?_⟩⟩
            have hbr := I.br id' _ ((hag id' (by simp)).trans hg)
            rcases hbr with ⟨rfl, _⟩ | ⟨b, base, N, hm', hW, hN, hsz, hE⟩
            · simp at he1
            · cases hx with
              | ptrO hm2 => rw [hm'] at hm2; cases hm2
              | ptrR hm2 _ =>
                rw [hm'] at hm2; cases hm2
                have hp : CsAt w m R Rf b (base + i * sz + o) xs := cast_vals I.sub hxs (hE i e he1)
                obtain ⟨vs, hf, hvs⟩ := hp.vals
                obtain ⟨val, hrun, hr⟩ := run_loadVar (P := P) (w := w) (m := m) (R := R) (Rf := Rf) hu (by rw [← hf.length, hxl, hl]) hv hf hvs
                exact ⟨val, w, by simp only [Instr.loadAt, Instr.sureAddr, Sem.run_bind, Sem.run_pure, Result.andThen_ok, hrun], Post.same I hr⟩
          · cases H
        · cases H
      · cases H
    · rename_i fr cs o
      split at H
      · rename_i hc
        have hl := Nat.eq_of_beq_eq_true hc
        obtain ⟨xs, H, hxl, hxs⟩ := castK_good H
        split at H
        · rename_i v hv
          refine ⟨v, [], H, fun va => ⟨by simp, fun w m R Rf hD hx hag hp hm I => ?_⟩⟩
          obtain ⟨b, base, rfl, hb, hcs⟩ := hx.rp_inv
          have hp : CsAt w m R Rf b (base + o) xs := cast_vals I.sub hxs hcs
          obtain ⟨vs, hf, hvs⟩ := hp.vals
          obtain ⟨val, hrun, hr⟩ := run_loadVar (P := P) (w := w) (m := m) (R := R) (Rf := Rf) hu (by rw [← hf.length, hxl, hl]) hv hf hvs
          exact ⟨val, w, by simp only [Instr.loadAt, Instr.sureAddr, Sem.run_bind, Sem.run_pure, Result.andThen_ok, hrun], Post.same I hr⟩
        · cases H
      · cases H
    · cases H
end Go.AM

namespace Go.AM
open Go.RowKit

variable {B : Base} {w w' : World} {m : Lm} {R Rf : Bs} {h : Tr Buf} {P : Program} {β : Type}

theorem delAll_get : ∀ (ids : List Nat) (h : Tr Buf) (i : Nat), (delAll h ids).get i = if i ∈ ids then none else h.get i
  | [], h, i => by simp [delAll]
  | j :: r, h, i => by
    rw [delAll, delAll_get r, Tr.get_del]
    by_cases hj : i = j
    · subst hj; simp
    · simp [hj]

theorem closeK_eq : ∀ (cs : List AC) (h : Tr Buf) (k : List AC → Bool → List Nat → Tr Buf → Option β),
    closeK h cs k = (closeCs h cs).bind fun r => k r.1 r.2.1 r.2.2.1 r.2.2.2 := by
  intro cs
  induction cs with
  | nil => intro h k; rfl
  | cons c r ih =>
    intro h k
    cases c with
    | ref id =>
      simp only [closeK, closeCs, Tr.setK_eq, ih]
      cases h.get id with
      | none => rfl
      | some b =>
        cases b <;> try rfl
        simp only [Tr.del]
        cases closeCs (Tr.setF (id + 1) h id none) r <;> rfl
    | sub id off len =>
      simp only [closeK, closeCs, Tr.setK_eq, ih]
      cases h.get id with
      | none => rfl
      | some b =>
        cases b <;> try rfl
        simp only [Tr.del]
        cases closeCs (Tr.setF (id + 1) h id none) r <;> rfl
    | _ =>
      simp only [closeK, closeCs, ih]
      generalize flat1 _ = q
      cases q with
      | none => rfl
      | some p => cases p; cases closeCs h r <;> rfl

theorem nolR (R : Bs) : ∀ f : Bool, sel f R R = R := fun f => by cases f <;> rfl

theorem flat1_good {c d : AC} {fr : Bool} (H : flat1 c = some (d, fr)) {u : Value} (hr : CR w m R Rf c u) : CR w noL (sel fr Rf R) (sel fr Rf R) d u := by
  unfold flat1 at H
  split at H
  · cases H; cases hr; exact .ro0
  · cases H; cases hr; exact .v ‹_›
  · rename_i fr' es
    cases H
    obtain ⟨A, cap, sz, rfl, hc, hS, hb⟩ := hr.ro_inv
    rcases hS with rfl | ⟨b, o, rfl, hsz, hE⟩
    · exact .ro0
    · rcases hb with rfl | ⟨b', o', e, hb⟩
      · exact .ro0
      · cases e
        exact CR.of_es (by rw [nolR]; exact hb) hc hsz (by rw [nolR]; exact hE)
  · rename_i fr' cs o
    cases H
    cases hr with
    | rp vs hb h1 h2 => exact .rp vs (by rw [nolR]; exact hb) h1 fun k x hx => by rw [nolR]; exact h2 k x hx
  · cases H

/-- Weaker sets. -/
theorem CR.weak {Rs Rt : Bs} (hs : ∀ k, Rs k → Rt k) {x : AC} {v : Value} (H : CR w noL Rs Rs x v) : CR w noL Rt Rt x v :=
  H.mono ⟨fun _ _ => rfl, hs, hs, fun _ => id, fun _ _ => id, fun _ _ _ => id⟩
theorem sel_and (I : ∀ k, Rf k → R k) (a b : Bool) : ∀ k, sel a Rf R k → sel (a && b) Rf R k := fun k hk => by cases a <;> cases b <;> first | exact hk | exact I k hk
theorem sel_and' (I : ∀ k, Rf k → R k) (a b : Bool) : ∀ k, sel b Rf R k → sel (a && b) Rf R k := fun k hk => by cases a <;> cases b <;> first | exact hk | exact I k hk

/-- A row is moved into shared memory. -/
theorem Inv.move {id : Nat} {cl : Bool} {sz : Nat} {es : List (List AC)} (I : Inv B w m R Rf h) (hg : h.get id = some (.row cl sz es)) :
    ∃ R' Rf', Inv B w m R' Rf' (h.del id) ∧ Ext w w m m R R' Rf Rf' ∧
      (∀ b, Free B w m R h b → Free B w m R' (h.del id) b) ∧
      (∀ u, CR w m R Rf (.ref id) u → CR w noL (sel cl Rf' R') (sel cl Rf' R') (.ro false es) u) ∧
      ∀ off len u, CR w m R Rf (.sub id off len) u → CR w noL (sel cl Rf' R') (sel cl Rf' R') (.ro false ((es.drop off).take len)) u := by
  have hbr := I.br id _ hg
  rcases hbr with ⟨rfl, hm⟩ | ⟨b, base, N, hm, hW, hN, hs, hE⟩
  · refine ⟨R, Rf, I.del id, Ext.refl w m R Rf I.sub, fun b F => F.del id, fun u hu => ?_, fun off len u hu => ?_⟩
    · cases hu with
      | ref0 _ => exact .ro0
      | ref hm' _ _ _ => rw [hm] at hm'; cases hm'
    · cases hu with
      | sub0 _ => simpa using CR.ro0
      | subE hm' _ _ _ => rw [hm] at hm'; cases hm'
      | sub hm' _ _ _ _ => rw [hm] at hm'; cases hm'
  · have hlive : live h id := ⟨_, hg, by simp⟩
    have F := I.free hlive (b := b) (by simp [blk, hm, Loc.blk])
    obtain ⟨I', E⟩ := (I.del id).share F
    refine ⟨_, _, I', E, fun b' F' => { F'.del id with dis := fun hR => ?_ }, fun u hu => ?_, fun off len u hu => ?_⟩
    · rcases hR with hR | rfl
      · exact F'.dis hR
      · exact F'.no id hlive (by simp [blk, hm, Loc.blk])
    · have hE' := hE.mono (cl := cl) E rfl
      have hb : sel cl (fun k => Rf k ∨ k = b) (fun k => R k ∨ k = b) b := by cases cl <;> exact .inr rfl
      cases hu with
      | ref0 hm' => rw [hm] at hm'; cases hm'
      | ref hm' hn _ _ =>
        rw [hm] at hm'; cases hm'
        exact CR.of_es (by rw [nolR]; exact hb) hn hs (by rw [nolR]; exact hE')
    · have hE' := hE.mono (cl := cl) E rfl
      have hb : sel cl (fun k => Rf k ∨ k = b) (fun k => R k ∨ k = b) b := by cases cl <;> exact .inr rfl
      cases hu with
      | sub0 hm' => rw [hm] at hm'; cases hm'
      | subE hm' _ _ _ => simpa using CR.ro0
      | sub hm' hn hl _ _ =>
        rw [hm] at hm'; cases hm'
        have hlen : ((es.drop off).take len).length = len := by simp; omega
        have := CR.of_es (m := noL) (R := sel cl (fun k => Rf k ∨ k = b) (fun k => R k ∨ k = b)) (Rf := sel cl (fun k => Rf k ∨ k = b) (fun k => R k ∨ k = b)) (fr := false) (es := (es.drop off).take len) (cap := _) (by rw [nolR]; exact hb) (by rw [hlen]; exact hl) (fun e he => hs e (part_mem he)) (by rw [nolR]; exact hE'.part off len)
        rw [hlen] at this
        exact this

theorem closeCs_del : ∀ {cs ds : List AC} {f : Bool} {ids : List Nat} {h h' : Tr Buf}, closeCs h cs = some (ds, f, ids, h') → h' = delAll h ids ∧ ds.length = cs.length := by
  intro cs
  induction cs with
  | nil => intro ds f ids h h' hc; cases hc; exact ⟨rfl, rfl⟩
  | cons c r ih =>
    intro ds f ids h h' hc
    cases c with
    | ref j =>
      simp only [closeCs] at hc
      cases hg : h.get j with
      | none => simp [hg] at hc
      | some b =>
        cases b <;> simp only [hg] at hc <;> try (cases hc; done)
        cases hq : closeCs (h.del j) r with
        | none => simp [hq] at hc
        | some q =>
          obtain ⟨_, _, _, _⟩ := q
          simp only [hq, Option.some.injEq, Prod.mk.injEq] at hc
          obtain ⟨rfl, _, rfl, rfl⟩ := hc
          exact ⟨(ih hq).1, by simp [(ih hq).2]⟩
    | sub j _ _ =>
      simp only [closeCs] at hc
      cases hg : h.get j with
      | none => simp [hg] at hc
      | some b =>
        cases b <;> simp only [hg] at hc <;> try (cases hc; done)
        cases hq : closeCs (h.del j) r with
        | none => simp [hq] at hc
        | some q =>
          obtain ⟨_, _, _, _⟩ := q
          simp only [hq, Option.some.injEq, Prod.mk.injEq] at hc
          obtain ⟨rfl, _, rfl, rfl⟩ := hc
          exact ⟨(ih hq).1, by simp [(ih hq).2]⟩
    | _ =>
      simp only [closeCs] at hc
      split at hc
      · cases hq : closeCs h r with
        | none => simp [hq] at hc
        | some q =>
          obtain ⟨_, _, _, _⟩ := q
          simp only [hq, Option.some.injEq, Prod.mk.injEq] at hc
          obtain ⟨rfl, _, rfl, rfl⟩ := hc
          exact ⟨(ih hq).1, by simp [(ih hq).2]⟩
      · cases hc

theorem closeCs_good : ∀ {cs ds : List AC} {f : Bool} {ids : List Nat} {h h' hD : Tr Buf} {m : Lm} {R Rf : Bs} {us : List Value}, closeCs h cs = some (ds, f, ids, h') → Fa (CR w m R Rf) cs us →
    (∀ i ∈ ids, hD.get i = h.get i) → Inv B w m R Rf hD →
    ∃ R' Rf', Inv B w m R' Rf' (delAll hD ids) ∧ Ext w w m m R R' Rf Rf' ∧ Fa (CR w noL (sel f Rf' R') (sel f Rf' R')) ds us ∧ (∀ b, Free B w m R hD b → Free B w m R' (delAll hD ids) b) := by
  intro cs
  induction cs with
  | nil =>
    intro ds f ids h h' hD m R Rf us H hf hag I
    cases H; cases hf
    exact ⟨R, Rf, I, Ext.refl w m R Rf I.sub, .nil, fun _ F => F⟩
  | cons c r ih =>
    intro ds f ids h h' hD m R Rf us H hf hag I
    cases hf with
    | @cons _ u _ us hc hrest =>
      have row : ∀ (id : Nat) (cl : Bool) (sz : Nat) (es : List (List AC)) (d : AC) (ds' : List AC) (f' : Bool) (ids' : List Nat), h.get id = some (.row cl sz es) → closeCs (h.del id) r = some (ds', f', ids', h') →
          ds = d :: ds' → f = (cl && f') → ids = id :: ids' → (∀ R' Rf' : Bs, (∀ u, CR w m R Rf (.ref id) u → CR w noL (sel cl Rf' R') (sel cl Rf' R') (.ro false es) u) → (∀ off len u, CR w m R Rf (.sub id off len) u → CR w noL (sel cl Rf' R') (sel cl Rf' R') (.ro false ((es.drop off).take len)) u) → CR w noL (sel cl Rf' R') (sel cl Rf' R') d u) →
          ∃ R' Rf', Inv B w m R' Rf' (delAll hD ids) ∧ Ext w w m m R R' Rf Rf' ∧ Fa (CR w noL (sel f Rf' R') (sel f Rf' R')) ds (u :: us) ∧ (∀ b, Free B w m R hD b → Free B w m R' (delAll hD ids) b) := by
        intro id cl sz es d ds' f' ids' hg hcl e1 e2 e3 hd
        subst e1; subst e2; subst e3
        have hgD : hD.get id = some (.row cl sz es) := (hag id (by simp)).trans hg
        obtain ⟨R1, Rf1, I1, E1, hF1, hr1, hr2⟩ := I.move hgD
        have hag' : ∀ i ∈ ids', (hD.del id).get i = (h.del id).get i := fun i hi => by
          rw [Tr.get_del, Tr.get_del]
          by_cases e : i = id
          · rw [if_pos e, if_pos e]
          · rw [if_neg e, if_neg e]; exact hag i (by simp [hi])
        obtain ⟨R2, Rf2, I2, E2, hf2, hh⟩ := ih hcl (hrest.mono fun _ _ hx => hx.mono E1) hag' I1
        refine ⟨R2, Rf2, I2, E1.trans E2, ?_, fun b F => hh b (hF1 b F)⟩
        refine .cons ?_ (hf2.mono fun _ _ hx => hx.weak (sel_and' I2.sub cl f'))
        have h0 := hd R1 Rf1 hr1 hr2
        exact (h0.mono (E2.sel cl)).weak (sel_and I2.sub cl f')
      cases c with
      | ref id =>
        simp only [closeCs] at H
        cases hg : h.get id with
        | none => simp [hg] at H
        | some b =>
          cases b with
          | row cl sz es =>
            simp only [hg] at H
            cases hcl : closeCs (h.del id) r with
            | none => simp [hcl] at H
            | some q =>
              obtain ⟨ds', f', ids', h''⟩ := q
              simp only [hcl, Option.some.injEq, Prod.mk.injEq] at H
              obtain ⟨rfl, rfl, rfl, rfl⟩ := H
              exact row id cl sz es _ ds' f' ids' hg hcl rfl rfl rfl fun R' Rf' h1 _ => h1 u hc
          | _ => simp [hg] at H
      | sub id off len =>
        simp only [closeCs] at H
        cases hg : h.get id with
        | none => simp [hg] at H
        | some b =>
          cases b with
          | row cl sz es =>
            simp only [hg] at H
            cases hcl : closeCs (h.del id) r with
            | none => simp [hcl] at H
            | some q =>
              obtain ⟨ds', f', ids', h''⟩ := q
              simp only [hcl, Option.some.injEq, Prod.mk.injEq] at H
              obtain ⟨rfl, rfl, rfl, rfl⟩ := H
              exact row id cl sz es _ ds' f' ids' hg hcl rfl rfl rfl fun R' Rf' _ h2 => h2 off len u hc
          | _ => simp [hg] at H
      | _ =>
        simp only [closeCs] at H
        split at H
        · rename_i d fr hfl
          cases hcl : closeCs h r with
          | none => simp [hcl] at H
          | some q =>
            obtain ⟨ds', f', ids', h''⟩ := q
            simp only [hcl, Option.some.injEq, Prod.mk.injEq] at H
            obtain ⟨rfl, rfl, rfl, rfl⟩ := H
            obtain ⟨R2, Rf2, I2, E2, hf2, hh⟩ := ih hcl hrest hag I
            refine ⟨R2, Rf2, I2, E2, ?_, hh⟩
            refine .cons ?_ (hf2.mono fun _ _ hx => hx.weak (sel_and' I2.sub fr f'))
            have h0 := flat1_good hfl hc
            exact (h0.mono (E2.sel fr)).weak (sel_and I2.sub fr f')
        · cases H
end Go.AM

namespace Go.AM
open Go.RowKit

variable {B : Base} {w w' : World} {m : Lm} {R Rf : Bs} {h : Tr Buf} {P : Program} {β : Type}

theorem set_set_get (h : Tr Buf) (id : Nat) (b : Buf) (i : Nat) : ((h.del id).set id b).get i = (h.set id b).get i := by
  rw [Tr.get_set, Tr.get_set, Tr.get_del]
  by_cases e : i = id <;> simp [e]

theorem Inv.congr {h h' : Tr Buf} (I : Inv B w m R Rf h) (he : ∀ i, h'.get i = h.get i) : Inv B w m R Rf h' := by
  have hl : ∀ i, live h' i → live h i := fun i ⟨x, hx, hg⟩ => ⟨x, by rw [← he]; exact hx, hg⟩
  exact { I with
    br := fun i x hx => I.br i x (by rw [← he]; exact hx)
    uniq := fun i j k hi hj => I.uniq i j k (hl i hi) (hl j hj)
    dis := fun i k hi => I.dis i k (hl i hi)
    own := fun i k hi => I.own i k (hl i hi) }

/-- A buffer of the own is written in place. -/
theorem Inv.write {id b : Nat} {l : Loc} {x : Buf} (I : Inv B w m R Rf h) (hl : live h id) (hm : m id = some l) (hb : l.blk = some b) (U : But b w w')
    (hx : Ext w w' m m R R Rf Rf → BR w' m R Rf id x) : Inv B w' m R Rf (h.set id x) ∧ Ext w w' m m R R Rf Rf := by
  have F := I.free hl (b := b) (by simp [blk, hm, hb])
  have E : Ext w w' m m R R Rf Rf := ⟨fun k hk => U.heap k fun e => F.dis (e ▸ hk), fun _ => _root_.id, fun _ => _root_.id, I.sub, fun _ _ => _root_.id, U.sh⟩
  obtain ⟨I', _⟩ := (I.del id).adopt (m' := m) F U (.inr hm) hm hb (.inr hm) (fun _ _ => rfl) (hx E)
  exact ⟨I'.congr fun i => (set_set_get h id x i).symm, E⟩

theorem run_storeVar {t : TypeId} {u : TypeDesc} {b o N : Nat} {v : Value} (hu : P.underlying t = some u) (hl : v.cells.toList.length = P.cellsOf t) (hW : Wr w b N) (hN : o + v.cells.toList.length ≤ N) (hs : ∀ x ∈ v.cells.toList, scalarV x = true) :
    (storeVar t ⟨b, o, none⟩ v).run P w = .ok () (w.setCells b o v.cells.toList) := by
  obtain ⟨i, hi⟩ := info_of_under hu
  unfold storeVar
  have : v.cells.size = P.cellsOf t := by simpa using hl
  simp only [Sem.run_bind, run_size hi, Result.andThen_ok, this, ne_eq, not_true_eq_false, if_false, Sem.run_pure]
  exact run_store_wr hW hN hs

theorem EsAt.splice {Rs : Bs} {b base N sz i o : Nat} {es : List (List AC)} {e ds : List AC} {us : List Value} (hW : Wr w b N) (hN : base + es.length * sz ≤ N) (hsz : ∀ e ∈ es, e.length = sz)
    (hE : EsAt w Rs b base sz es) (he : es[i]? = some e) (ho : o + ds.length ≤ sz) (hf : Fa (CR w noL Rs Rs) ds us)
    (E : Ext w (w.setCells b (base + i * sz + o) us) noL noL Rs Rs Rs Rs) : EsAt (w.setCells b (base + i * sz + o) us) Rs b base sz (es.set i (splice e o ds)) := by
  have hie : i < es.length := (List.getElem?_eq_some_iff.1 he).1
  have hin : i * sz + sz ≤ es.length * sz := by rw [← Nat.succ_mul]; exact Nat.mul_le_mul_right sz hie
  have hel : e.length = sz := hsz e (List.mem_of_getElem? he)
  have hul := hf.length
  intro j e' he' k x hx
  by_cases hj : j = i
  · subst hj
    rw [List.getElem?_set_self hie] at he'
    cases he'
    have := CsAt.splice (m := noL) (R := Rs) (Rf := Rs) (b := b) (N := N) (o := base + j * sz) (i := o) hW (by omega) (by omega) (hE j e he) hf E
    exact this k x hx
  · rw [List.getElem?_set_ne (by omega)] at he'
    obtain ⟨u, hu, hr⟩ := hE j e' he' k x hx
    have hjl : j < es.length := (List.getElem?_eq_some_iff.1 he').1
    have hkl : k < sz := by rw [← hsz e' (List.mem_of_getElem? he')]; exact (List.getElem?_eq_some_iff.1 hx).1
    refine ⟨u, ?_, hr.mono E⟩
    rw [cell_setCells hW (by omega), if_neg ?_]
    · exact hu
    · intro hc
      rcases Nat.lt_or_gt_of_ne hj with hlt | hgt
      · have : j * sz + sz ≤ i * sz := by rw [← Nat.succ_mul]; exact Nat.mul_le_mul_right sz hlt
        omega
      · have : i * sz + sz ≤ j * sz := by rw [← Nat.succ_mul]; exact Nat.mul_le_mul_right sz hgt
        omega

theorem storeK_good {st : Bool} {id : Nat} {t : TypeId} {a : AC} {x : AV} {s : S} {K : KT β} {out : β} (H : storeK st P t a x s K = some out) :
    ∃ U wr, K (.tup []) { s with h := applyU U s.h } [] wr = some out ∧ (∀ k ∈ U.map (·.1), k = id ∨ k ∈ wr) ∧
      ∀ (va vx : Value) (w : World) (m : Lm) (R Rf : Bs) (hD : Tr Buf), CR w m R Rf a va → VR w m R Rf x vx → (∀ i ∈ wr, hD.get i = s.h.get i) → Inv B w m R Rf hD →
        ∃ w', (Instr.storeAt t va vx).run P w = .ok () w' ∧ ∃ R' Rf', Inv B w' m R' Rf' (applyU U hD) ∧ Ext w w' m m R R' Rf Rf' := by
  unfold storeK at H
  split at H
  · rename_i id' i o vs hvs
    split at H
    · rename_i hc0
      rw [Bool.and_eq_true] at hc0
      have hlen := Nat.eq_of_beq_eq_true hc0.1
      obtain ⟨u, hu⟩ := okT_spec hc0.2
      split at H
      · rename_i t' cs hg
        split at H
        · rename_i hc
          rw [Bool.and_eq_true] at hc
          have hi := Nat.eq_of_beq_eq_true hc.1
          have ho := Nat.le_of_ble_eq_true hc.2
          subst hi
          rw [putH_eq] at H
          refine ⟨[(id', some (.obj t' (splice cs o vs)))], [id'], H, by simp, fun va vx w m R Rf hD ha hx hag I => ?_⟩
          have hgD := (hag id' (by simp)).trans hg
          obtain ⟨b, base, N, hm, hW, hN, hcs⟩ := I.br id' _ hgD
          have hf := hx.cells hvs
          have hfl := hf.length
          cases ha with
          | ptrR hm2 _ => rw [hm] at hm2; cases hm2
          | ptrO hm2 =>
            rw [hm] at hm2; cases hm2
            refine ⟨_, ?_, R, Rf, I.write ⟨_, hgD, by simp⟩ hm rfl (But.setCells b vx.cells.toList (base + o) w) fun E => ?_⟩
            · simp only [Instr.storeAt, Instr.sureAddr, Sem.run_bind, Sem.run_pure, Result.andThen_ok]
              exact run_storeVar hu (by omega) hW (by omega) (Fa.scalars hf)
            · exact ⟨b, base, N, hm, Wr.setCells _ _ _ hW, by rw [splice_length]; exact hN, CsAt.splice hW hN ho hcs hf E⟩
        · cases H
      · rename_i cl sz es hg
        split at H
        · rename_i ho
          have ho := Nat.le_of_ble_eq_true ho
          rw [delH_eq, closeK_eq] at H
          simp only at H
          cases hcl : closeCs (s.h.del id') vs with
          | none => rw [hcl] at H; cases H
          | some q =>
            obtain ⟨ds, f, ids, h'⟩ := q
            rw [hcl] at H
            simp only [Option.bind_some] at H
            obtain ⟨e, he, H⟩ := bnd_some H
            rw [withH_eq, putH_eq] at H
            obtain ⟨he1, he2⟩ := getE_spec he
            obtain ⟨hdel, hdl⟩ := closeCs_del hcl
            subst hdel
            refine ⟨(id', none) :: (dels ids ++ [(id', some (.row (cl && f) sz (es.set i (splice e o ds))))]), id' :: ids, ?_, ?_, fun va vx w m R Rf hD ha hx hag I => ?_⟩
            · have : applyU ((id', none) :: (dels ids ++ [(id', some (.row (cl && f) sz (es.set i (splice e o ds))))])) s.h = (delAll (s.h.del id') ids).set id' (.row (cl && f) sz (es.set i (splice e o ds))) := by
                rw [applyU, applyU_append, applyU_dels]; rfl
              rw [this]; exact H
            · intro k hk
              right
              simp only [dels, List.map_cons, List.map_append, List.map_map, List.map_nil, List.mem_cons, List.mem_append, List.mem_map, Function.comp, List.not_mem_nil, or_false] at hk ⊢
              rcases hk with hk | ⟨a, ha, hk⟩ | hk
              · exact .inl hk
              · exact .inr (hk ▸ ha)
              · exact .inl hk
            · have hgD := (hag id' (by simp)).trans hg
              have hlive : live hD id' := ⟨_, hgD, by simp⟩
              rcases I.br id' _ hgD with ⟨rfl, _⟩ | ⟨b, base, N, hm, hW, hN, hsz, hE⟩
              · simp at he1
              · have hf := hx.cells hvs
                have hfl := hf.length
                have hag' : ∀ j ∈ ids, (hD.del id').get j = (s.h.del id').get j := fun j hj => by
                  rw [Tr.get_del, Tr.get_del]
                  by_cases e : j = id'
                  · rw [if_pos e, if_pos e]
                  · rw [if_neg e, if_neg e]; exact hag j (by simp [hj])
                have F := I.free hlive (b := b) (by simp [blk, hm, Loc.blk])
                obtain ⟨R', Rf', I', E', hf', hF⟩ := closeCs_good hcl hf hag' (I.del id')
                have F' := hF b F
                have hie : i < es.length := (List.getElem?_eq_some_iff.1 he1).1
                have hin : i * sz + sz ≤ es.length * sz := by rw [← Nat.succ_mul]; exact Nat.mul_le_mul_right sz hie
                cases ha with
                | ptrO hm2 => rw [hm] at hm2; cases hm2
                | ptrR hm2 _ =>
                  rw [hm] at hm2; cases hm2
                  have U := But.setCells b vx.cells.toList (base + i * sz + o) w
                  have E2 : Ext w (w.setCells b (base + i * sz + o) vx.cells.toList) m m R' R' Rf' Rf' := ⟨fun k hk => U.heap k fun e => F'.dis (e ▸ hk), fun _ => _root_.id, fun _ => _root_.id, I'.sub, fun _ _ => _root_.id, U.sh⟩
                  obtain ⟨I2, E3⟩ := I'.adopt (m' := m) (l := .row b base sz es.length) (x := .row (cl && f) sz (es.set i (splice e o ds))) F' U (.inr hm) hm rfl (.inr hm) (fun _ _ => rfl) (by
                    refine .inr ⟨b, base, N, by simpa using hm, Wr.setCells _ _ _ hW, by simpa using hN, fun e' he' => ?_, ?_⟩
                    · rcases List.mem_or_eq_of_mem_set he' with h | rfl
                      · exact hsz e' h
                      · rw [splice_length]; exact he2
                    · have hE' : EsAt w (sel (cl && f) Rf' R') b base sz es := fun j e' he' k x hx => by
                        obtain ⟨u, hu, hr⟩ := hE j e' he' k x hx
                        exact ⟨u, hu, (hr.mono (E'.sel cl)).weak (sel_and I'.sub cl f)⟩
                      exact EsAt.splice hW hN hsz hE' he1 (by omega) (hf'.mono fun _ _ hr => hr.weak (sel_and' I'.sub cl f)) (E2.sel (cl && f)))
                  refine ⟨_, ?_, R', Rf', ?_, E'.trans E2⟩
                  · simp only [Instr.storeAt, Instr.sureAddr, Sem.run_bind, Sem.run_pure, Result.andThen_ok]
                    exact run_storeVar hu (by omega) hW (by omega) (Fa.scalars hf)
                  · rw [applyU, applyU_append, applyU_dels]
                    exact I2
        · cases H
      · cases H
    · cases H
  · cases H
end Go.AM

namespace Go.AM
open Go.RowKit

variable {B : Base} {w w' : World} {m : Lm} {R Rf : Bs} {h : Tr Buf} {P : Program} {β : Type}

theorem run_sureAddr (a : Addr) : (Instr.sureAddr (.pointer (some a))).run P w = .ok a w := rfl
theorem addr_add' (b o i : Nat) : (⟨b, o, none⟩ : Addr).add i = ⟨b, o + i, none⟩ := addr_add b o i

theorem fieldAddrK_good {t : TypeId} {x : AV} {f : Nat} {K : AV → Option β} {out : β} (H : fieldAddrK P t x f K = some out) :
    ∃ r, K r = some out ∧ ∀ (w : World) (m : Lm) (R Rf : Bs) (vx : Value), VR w m R Rf x vx → ∃ val, (Instr.fieldAt t vx f).run P w = .ok val w ∧ VR w m R Rf r val := by
  unfold fieldAddrK at H
  split at H
  · rename_i fs hu
    split at H
    · rename_i fd hfd
      split at H
      · rename_i id i o h0 hi
        refine ⟨_, H, fun w m R Rf vx hx => ?_⟩
        obtain ⟨inf, hinf⟩ := Option.isSome_iff_exists.1 hi
        have h0' : ¬ (P.cellsOf fd.type = 0) := fun e => by rw [e] at h0; cases h0
        have go : ∀ a : Addr, a.spot = none → vx = .pointer (some a) → (Instr.fieldAt t vx f).run P w = .ok (.pointer (some (a.add fd.offset))) w := by
          rintro a ha rfl
          simp only [Instr.fieldAt, Sem.run_bind, run_under hu, Result.andThen_ok, hfd, run_sureAddr, fieldPlace, run_size hinf, h0', if_false, Sem.run_pure]
        cases hx.c_inv with
        | ptrR hm hi => exact ⟨_, go _ rfl rfl, by rw [addr_add, Nat.add_assoc]; exact .c (.ptrR hm hi)⟩
        | ptrO hm => exact ⟨_, go _ rfl rfl, by rw [addr_add, Nat.add_assoc]; exact .c (.ptrO hm)⟩
      · rename_i fr cs o h0 hi
        refine ⟨_, H, fun w m R Rf vx hx => ?_⟩
        obtain ⟨inf, hinf⟩ := Option.isSome_iff_exists.1 hi
        have h0' : ¬ (P.cellsOf fd.type = 0) := fun e => by rw [e] at h0; cases h0
        have go : ∀ a : Addr, a.spot = none → vx = .pointer (some a) → (Instr.fieldAt t vx f).run P w = .ok (.pointer (some (a.add fd.offset))) w := by
          rintro a ha rfl
          simp only [Instr.fieldAt, Sem.run_bind, run_under hu, Result.andThen_ok, hfd, run_sureAddr, fieldPlace, run_size hinf, h0', if_false, Sem.run_pure]
        cases hx.c_inv with
        | rp vs hb h1 h2 => exact ⟨_, go _ rfl rfl, by rw [addr_add, Nat.add_assoc]; exact .c (.rp vs hb h1 h2)⟩
      · cases H
    · cases H
  · cases H

theorem run_part_cells {t : TypeId} {cs : List AC} {v : AV} {off : Nat} {arr : Array Value} (hok : okT P t = true) (hl : off + P.cellsOf t ≤ cs.length) (hv : ofCells P t ((cs.drop off).take (P.cellsOf t)) = some v)
    (hf : Fa (CR w m R Rf) cs arr.toList) : ∃ val, (part t arr off).run P w = .ok val w ∧ VR w m R Rf v val := by
  obtain ⟨u, hu⟩ := okT_spec hok
  obtain ⟨i, hi⟩ := info_of_under hu
  have hlen := hf.length
  have hf' := (hf.drop off).take (P.cellsOf t)
  rcases ofCells_good hv hf' with ⟨ha, hr⟩ | ⟨ha, x, hx, hr⟩
  · refine ⟨_, run_part hu hi rfl (by simp at hlen; omega) (by simp [ha]), ?_⟩
    simp only [valOf, ha]; exact hr
  · have h1 : P.cellsOf t = 1 := by
      have := congrArg List.length hx
      simp at this hlen
      omega
    refine ⟨_, run_part hu hi rfl (by simp at hlen; omega) (fun _ => h1), ?_⟩
    simp only [valOf, ha, hx]; exact hr

theorem fieldK_good {t : TypeId} {x : AV} {f : Nat} {K : AV → Option β} {out : β} (H : fieldK P t x f K = some out) :
    ∃ r, K r = some out ∧ ∀ (w : World) (m : Lm) (R Rf : Bs) (vx : Value), VR w m R Rf x vx → ∃ val, (Instr.field t vx f).run P w = .ok val w ∧ VR w m R Rf r val := by
  unfold fieldK at H
  split at H
  · rename_i fs cs hu
    split at H
    · rename_i fd hfd
      split at H
      · rename_i hl hok
        have hl := Nat.le_of_ble_eq_true hl
        split at H
        · rename_i v hv
          refine ⟨v, H, fun w m R Rf vx hx => ?_⟩
          obtain ⟨arr, rfl, hf⟩ := hx.agg_inv
          obtain ⟨val, hrun, hr⟩ := run_part_cells (P := P) hok hl hv hf
          refine ⟨val, ?_, hr⟩
          simp only [Instr.field, Sem.run_bind, run_under hu, Result.andThen_ok, hfd, asAgg, Sem.run_pure, hrun]
        · cases H
      · cases H
    · cases H
  · cases H

theorem strAt_spec {b : ByteArray} {i : Nat} {c : Int} (h : strAt b i = some c) : ∃ x : UInt8, b[i]? = some x ∧ c = (x.toNat : Int) := by
  unfold strAt at h
  split at h
  · rename_i x hx
    cases h
    refine ⟨x, ?_, rfl⟩
    have hlt : i < b.size := by
      have := (List.getElem?_eq_some_iff.1 hx).1
      simpa using this
    rw [getElem?_pos b i hlt]
    have h2 := (List.getElem?_eq_some_iff.1 hx).2
    congr 1
  · cases h

theorem indexK_good {t : TypeId} {x i : AV} {K : AV → Option β} {out : β} (H : indexK P t x i K = some out) :
    ∃ r, K r = some out ∧ ∀ (w : World) (m : Lm) (R Rf : Bs) (vx vi : Value), VR w m R Rf x vx → VR w m R Rf i vi → ∃ val, (Instr.index t vx vi).run P w = .ok val w ∧ VR w m R Rf r val := by
  unfold indexK at H
  split at H
  · rename_i b k n hu
    obtain ⟨hn, H⟩ := itet_some H
    simp only [decide_eq_true_eq] at hn
    obtain ⟨c, hc, H⟩ := bnd_some H
    refine ⟨_, H, fun w m R Rf vx vi hx hi => ?_⟩
    have := hx.v_inv; subst this
    have := hi.v_inv; subst this
    obtain ⟨y, hy, rfl⟩ := strAt_spec hc
    refine ⟨.int .u8 (y.toNat : Int), ?_, .int⟩
    simp only [Instr.index, asIntOf, Sem.run_bind, Sem.run_pure, Result.andThen_ok, run_under hu, hn, if_true, hy]
  · cases H

theorem run_indexAt {t e : TypeId} (hu : P.underlying t = some (.slice e)) {a : Addr} {len cap : Nat} {k : IntKind} {n : Int} (h0 : 0 ≤ n) (hn : n.toNat < len) {i : TypeInfo} (hi : P.info? e = some i) :
    (Instr.indexAt t (.slice (some a) len cap) (.int k n)).run P w = .ok (.pointer (some (a.add (n.toNat * P.cellsOf e)))) w := by
  have : 0 ≤ n ∧ n < (len : Int) := by omega
  simp only [Instr.indexAt, asIntOf, Sem.run_bind, Sem.run_pure, Result.andThen_ok, run_under hu, this, and_self, if_true, run_size hi]

theorem elemT_spec {t e : TypeId} (h : elemT P t = some e) : P.underlying t = some (.slice e) ∧ ∃ i, P.info? e = some i := by
  unfold elemT at h
  split at h
  · split at h
    · rename_i hi
      cases h; exact ⟨by assumption, Option.isSome_iff_exists.1 hi⟩
    · cases h
  · cases h

theorem indexAddrK_good {id : Nat} {t : TypeId} {x i : AV} {s : S} {K : KT β} {out : β} (H : indexAddrK P t x i s K = some out) :
    ∃ v rd, K v s rd [] = some out ∧ ∀ vx vi, Does B P id [] s.h rd [] v (fun w m R Rf => VR w m R Rf x vx ∧ VR w m R Rf i vi) fun _ => Instr.indexAt t vx vi := by
  unfold indexAddrK at H
  split at H
  · rename_i e x k n he
    have H1 := itet_some H
    clear H
    obtain ⟨hn, H⟩ := H1
    simp only [decide_eq_true_eq] at hn
    obtain ⟨hu, inf, hinf⟩ := elemT_spec he
    split at H
    · rename_i fr es
      obtain ⟨c, hc, H⟩ := bnd_some H
      obtain ⟨hc1, hc2⟩ := getE_spec hc
      have hlt : n.toNat < es.length := (List.getElem?_eq_some_iff.1 hc1).1
      refine ⟨_, [], H, fun vx vi => ⟨by simp, fun w m R Rf hD hx hag hp hm I => ?_⟩⟩
      have := hx.2.v_inv; subst this
      cases hx.1.c_inv with
      | ro0 => simp at hlt
      | ro vs hb hcap hs h1 h2 =>
        have hsz : _ = P.cellsOf e := (hs c (List.mem_of_getElem? hc1)).symm.trans hc2
        subst hsz
        refine ⟨_, w, run_indexAt hu hn hlt hinf, Post.same I ?_⟩
        rw [addr_add]
        exact .c (.rp (fun k => vs n.toNat k) hb (fun k hk => h1 _ c hc1 k (by omega)) fun k x hx => h2 _ c hc1 k x hx)
    · rename_i id'
      split at H
      · rename_i cl sz es hg
        split at H
        · rename_i hsz
          have hsz := Nat.eq_of_beq_eq_true hsz
          obtain ⟨hlt, H⟩ := itet_some H
          simp only [decide_eq_true_eq] at hlt
          refine ⟨_, [id'], H, fun vx vi => ⟨by simp, fun w m R Rf hD hx hag hp hm I => ?_⟩⟩
          have := hx.2.v_inv; subst this
          rcases I.br id' _ ((hag id' (by simp)).trans hg) with ⟨rfl, _⟩ | ⟨b, base, N, hm', hW, hN, hs, hE⟩
          · simp at hlt
          · cases hx.1.c_inv with
            | ref0 hm2 => rw [hm'] at hm2; cases hm2
            | ref hm2 hn2 hsh hc2 =>
              rw [hm'] at hm2; cases hm2
              refine ⟨_, w, run_indexAt hu hn hlt hinf, Post.same I ?_⟩
              rw [addr_add, ← hsz]
              exact .c (.ptrR hm' hlt)
        · cases H
      · cases H
    · rename_i id' off len
      split at H
      · rename_i cl sz es hg
        split at H
        · rename_i hsz
          have hsz := Nat.eq_of_beq_eq_true hsz
          obtain ⟨hlt, H⟩ := itet_some H
          simp only [decide_eq_true_eq] at hlt
          refine ⟨_, [id'], H, fun vx vi => ⟨by simp, fun w m R Rf hD hx hag hp hm I => ?_⟩⟩
          have := hx.2.v_inv; subst this
          cases hx.1.c_inv with
          | sub0 _ => simp at hlt
          | subE _ _ _ _ => simp at hlt
          | sub hm2 hn2 hl2 hsh hc2 =>
            rcases I.br id' _ ((hag id' (by simp)).trans hg) with ⟨rfl, hm'⟩ | ⟨b, base, N, hm', hW, hN, hs, hE⟩
            · rw [hm'] at hm2; cases hm2
            · rw [hm'] at hm2; cases hm2
              refine ⟨_, w, run_indexAt hu hn hlt hinf, Post.same I ?_⟩
              have hb : ∀ base : Nat, base + off * sz + n.toNat * sz = base + (off + n.toNat) * sz + 0 := fun base => by rw [Nat.add_mul]; omega
              rw [addr_add, ← hsz, hb]
              exact .c (.ptrR hm' (by omega))
        · cases H
      · cases H
    · cases H
  · cases H
end Go.AM

namespace Go.AM
open Go.RowKit

variable {B : Base} {w w' : World} {m : Lm} {R Rf : Bs} {h : Tr Buf} {P : Program} {β : Type}

def BoundR : Option Int → Option Value → Prop
  | none, none => True
  | some n, some v => ∃ k, v = .int k n
  | _, _ => False

theorem run_sliceBound {v : Value} {k : IntKind} {n : Int} {y : Nat} (c : BoundsCode) (hv : v = .int k n) (h0 : 0 ≤ n) (h1 : n.toNat ≤ y) : (Instr.sliceBound v y c).run P w = .ok n.toNat w := by
  subst hv
  have : 0 ≤ n ∧ n ≤ (y : Int) := by omega
  simp only [Instr.sliceBound, asIntOf, Sem.run_bind, Sem.run_pure, Result.andThen_ok, this, and_self, if_true]

theorem cutK_spec {n : Nat} {lo hi : Option Int} {a : Option β} {f g : Nat → Option β} {k : Nat → Nat → Option β} {out : β} (H : cutK n lo hi a f g k = some out) :
    ∃ l h, l ≤ h ∧ h ≤ n ∧ (∀ (P : Program) (w : World) (vlo vhi : Option Value) (cap : Nat) (q : Bool), n ≤ cap → BoundR lo vlo → BoundR hi vhi → (Instr.sliceBounds q n cap vlo vhi none).run P w = .ok (l, h, cap) w) ∧
      ((l = 0 ∧ h = n ∧ a = some out) ∨ (h = n ∧ f l = some out) ∨ (l = 0 ∧ g h = some out) ∨ k l h = some out) := by
  unfold cutK at H
  split at H
  · refine ⟨0, n, by omega, by omega, fun P w vlo vhi cap q hc h1 h2 => ?_, .inl ⟨rfl, rfl, H⟩⟩
    cases vlo with
    | some v => exact absurd h1 (by simp [BoundR])
    | none =>
      cases vhi with
      | some v => exact absurd h2 (by simp [BoundR])
      | none => simp [Instr.sliceBounds]
  · rename_i l
    have H1 := itet_some H
    clear H
    obtain ⟨h0, H⟩ := H1
    have H1 := itet_some H
    clear H
    obtain ⟨h1, H⟩ := H1
    simp only [decide_eq_true_eq] at h0 h1
    refine ⟨l.toNat, n, h1, by omega, fun P w vlo vhi cap q hc b1 b2 => ?_, .inr (.inl ⟨rfl, H⟩)⟩
    cases vhi with
    | some v => exact absurd b2 (by simp [BoundR])
    | none =>
      cases vlo with
      | none => exact absurd b1 (by simp [BoundR])
      | some v =>
        obtain ⟨k, hk⟩ := b1
        simp only [Instr.sliceBounds, Sem.run_bind, Sem.run_pure, Result.andThen_ok, run_sliceBound _ hk h0 h1]
  · rename_i hh
    have H1 := itet_some H
    clear H
    obtain ⟨h0, H⟩ := H1
    have H1 := itet_some H
    clear H
    obtain ⟨h1, H⟩ := H1
    simp only [decide_eq_true_eq] at h0 h1
    refine ⟨0, hh.toNat, by omega, h1, fun P w vlo vhi cap q hc b1 b2 => ?_, .inr (.inr (.inl ⟨rfl, H⟩))⟩
    cases vlo with
    | some v => exact absurd b1 (by simp [BoundR])
    | none =>
      cases vhi with
      | none => exact absurd b2 (by simp [BoundR])
      | some v =>
        obtain ⟨k, hk⟩ := b2
        simp only [Instr.sliceBounds, Sem.run_bind, Sem.run_pure, Result.andThen_ok, run_sliceBound _ hk h0 (Nat.le_trans h1 hc)]
  · rename_i l hh
    have H1 := itet_some H
    clear H
    obtain ⟨h0, H⟩ := H1
    have H1 := itet_some H
    clear H
    obtain ⟨h1, H⟩ := H1
    have H1 := itet_some H
    clear H
    obtain ⟨h2, H⟩ := H1
    simp only [decide_eq_true_eq] at h0 h1 h2
    refine ⟨l.toNat, hh.toNat, by omega, h2, fun P w vlo vhi cap q hc b1 b2 => ?_, .inr (.inr (.inr H))⟩
    cases vlo with
    | none => exact absurd b1 (by simp [BoundR])
    | some v =>
      cases vhi with
      | none => exact absurd b2 (by simp [BoundR])
      | some u =>
        obtain ⟨k, hk⟩ := b1
        obtain ⟨k', hk'⟩ := b2
        simp only [Instr.sliceBounds, Sem.run_bind, Sem.run_pure, Result.andThen_ok, run_sliceBound _ hk' (show (0:Int) ≤ hh by omega) (Nat.le_trans h2 hc), run_sliceBound _ hk h0 (show l.toNat ≤ hh.toNat by omega)]

/-- What slicing a slice makes. -/
def cutV (sz : Nat) (A : Option Addr) (l h cap : Nat) : Value := .slice (if cap = l then A else A.map (·.add (l * sz))) (h - l) (cap - l)

theorem run_slice {t e : TypeId} {inf : TypeInfo} (hu : P.underlying t = some (.slice e)) (hi : P.info? e = some inf) {A : Option Addr} {n cap l h : Nat} {vlo vhi : Option Value}
    (hb : (Instr.sliceBounds true n cap vlo vhi none).run P w = .ok (l, h, cap) w) : (Instr.slice t (.slice A n cap) vlo vhi none).run P w = .ok (cutV (P.cellsOf e) A l h cap) w := by
  simp only [Instr.slice, Sem.run_bind, run_under hu, Result.andThen_ok, hb, run_size hi, Sem.run_pure, cutV]

theorem CR.as_sub {id : Nat} {v : Value} (H : CR w m R Rf (.ref id) v) : ∃ A n cap, v = .slice A n cap ∧ n ≤ cap ∧ CR w m R Rf (.sub id 0 n) v := by
  cases H with
  | ref0 hm => exact ⟨_, _, _, rfl, Nat.le_refl _, .sub0 hm⟩
  | @ref _ _ _ _ b base sz n cap N t hm hn hs hc =>
    refine ⟨_, _, _, rfl, hn, ?_⟩
    have := CR.sub (w := w) (R := R) (Rf := Rf) (off := 0) (len := n) (cap := cap) hm (by omega) hn hs (by simpa using hc)
    simpa using this

theorem CR.cut {id off len : Nat} {A : Option Addr} {n cap sz : Nat} (H : CR w m R Rf (.sub id off len) (.slice A n cap)) (hsz : ∀ b base z n, m id = some (.row b base z n) → z = sz) {l h : Nat} (hlh : l ≤ h) (hh : h ≤ n) :
    n = len ∧ n ≤ cap ∧ CR w m R Rf (.sub id (off + l) (h - l)) (cutV sz A l h cap) := by
  cases H with
  | sub0 hm =>
    have : l = 0 := by omega
    subst this
    have : h = 0 := by omega
    subst this
    exact ⟨rfl, Nat.le_refl _, by simpa [cutV] using CR.sub0 hm⟩
  | subE hm hn hs ho =>
    have : l = 0 := by omega
    subst this
    have : h = 0 := by omega
    subst this
    exact ⟨rfl, Nat.le_refl _, by simpa [cutV] using CR.subE hm hn hs ho⟩
  | @sub _ _ _ _ _ _ b base sz' k _ N t hm hn hl hs hc =>
    have := hsz _ _ _ _ hm
    subst this
    refine ⟨rfl, hl, ?_⟩
    unfold cutV
    by_cases e : cap = l
    · rw [if_pos e]
      have e1 : h - l = 0 := by omega
      have e2 : cap - l = 0 := by omega
      rw [e1, e2]
      refine .subE hm (by omega) hs ?_
      have := Nat.mul_le_mul_right sz' (show off ≤ off + cap by omega)
      omega
    · rw [if_neg e]
      simp only [Option.map_some, addr_add]
      have := CR.sub (w := w) (R := R) (Rf := Rf) (off := off + l) (len := h - l) (cap := cap - l) hm (by omega) (by omega) hs (by
        rw [show off + l + (cap - l) = off + cap by omega]; exact hc)
      rwa [show base + (off + l) * sz' = base + off * sz' + l * sz' by rw [Nat.add_mul]; omega] at this

theorem CR.cutRo {fr : Bool} {es : List (List AC)} {A : Option Addr} {n cap sz : Nat} (H : CR w m R Rf (.ro fr es) (.slice A n cap)) (hsz : ∀ e ∈ es, e.length = sz) {l h : Nat} (hlh : l ≤ h) (hh : h ≤ n) :
    n = es.length ∧ n ≤ cap ∧ CR w m R Rf (.ro fr ((es.drop l).take (h - l))) (cutV sz A l h cap) := by
  obtain ⟨A', cap', sz', e, hc, hS, hb⟩ := H.ro_inv
  cases e
  refine ⟨rfl, hc, ?_⟩
  by_cases e0 : h - l = 0
  · rw [e0]; simp only [List.take_zero]; unfold cutV; rw [e0]; exact .ro0
  · rcases hS with rfl | ⟨b, o, rfl, hs, hE⟩
    · simp at hh; omega
    · rcases hb with rfl | ⟨b', o', e, hb⟩
      · simp at hh; omega
      · cases e
        have : sz' = sz := by
          have h0 : 0 < es.length := by omega
          have hm : es[0] ∈ es := List.getElem_mem h0
          rw [← hs _ hm, ← hsz _ hm]
        subst this
        unfold cutV
        rw [if_neg (by omega)]
        simp only [Option.map_some, addr_add]
        have hlen : ((es.drop l).take (h - l)).length = h - l := by simp; omega
        have := CR.of_es (m := m) (R := R) (Rf := Rf) (fr := fr) (es := (es.drop l).take (h - l)) (cap := cap - l) hb (by rw [hlen]; omega) (fun e he => hs e (part_mem he)) (hE.part l (h - l))
        rwa [hlen] at this

theorem szCk_spec {sz : Nat} {es es' : List (List AC)} (h : szCk sz es = some es') : es' = es ∧ ∀ e ∈ es, e.length = sz := by
  unfold szCk at h
  split at h
  · rename_i hs
    cases h
    simp only [szL, List.all_eq_true] at hs
    exact ⟨rfl, fun e he => Nat.eq_of_beq_eq_true (hs e he)⟩
  · cases h

theorem sliceK_good {id : Nat} {t : TypeId} {x : AV} {lo hi : Option Int} {s : S} {K : KT β} {out : β} (H : sliceK P t x lo hi s K = some out) :
    ∃ v rd, K v s rd [] = some out ∧ ∀ vx vlo vhi, BoundR lo vlo → BoundR hi vhi → Does B P id [] s.h rd [] v (fun w m R Rf => VR w m R Rf x vx) fun _ => Instr.slice t vx vlo vhi none := by
  unfold sliceK at H
  split at H
  · rename_i b hu
    obtain ⟨l, h, hlh, hhn, hrun, hk⟩ := cutK_spec H
    have fin : K (aStr (strCut b l h)) s [] [] = some out := by
      rcases hk with ⟨rfl, rfl, hk⟩ | ⟨rfl, hk⟩ | ⟨rfl, hk⟩ | hk
      · rw [← hk, strCut_eq, strLen_eq]; congr 2; exact (ByteArray.extract_zero_size).symm ▸ rfl
      · exact hk
      · exact hk
      · exact hk
    refine ⟨_, [], fin, fun vx vlo vhi b1 b2 => ⟨by simp, fun w m R Rf hD hx hag hp hm I => ?_⟩⟩
    have := hx.v_inv; subst this
    rw [strLen_eq] at hrun
    refine ⟨_, w, ?_, Post.same I (.str (b := strCut b l h))⟩
    simp only [Instr.slice, Sem.run_bind, run_under hu, Result.andThen_ok, Option.isSome_none, Bool.false_eq_true, if_false, Sem.run_pure, hrun P w vlo vhi b.size false (Nat.le_refl _) b1 b2, strCut_eq]
  · rename_i e x hu
    split at H
    · cases H
    · rename_i hinf
      obtain ⟨inf, hinf⟩ := Option.isSome_iff_exists.1 hinf
      split at H
      · rename_i fr es
        split at H
        · cases H
        · have H1 := bnd_some H
          clear H
          obtain ⟨es', hes, H⟩ := H1
          obtain ⟨rfl, hsz⟩ := szCk_spec hes
          obtain ⟨l, h, hlh, hhn, hrun, hk⟩ := cutK_spec H
          have fin : K (.c (.ro fr ((es'.drop l).take (h - l)))) s [] [] = some out := by
            rcases hk with ⟨rfl, rfl, hk⟩ | ⟨rfl, hk⟩ | ⟨rfl, hk⟩ | hk
            · rw [← hk]; simp
            · rw [← hk]; congr 3; exact List.take_of_length_le (by simp)
            · rw [← hk]; simp
            · exact hk
          refine ⟨_, [], fin, fun vx vlo vhi b1 b2 => ⟨by simp, fun w m R Rf hD hx hag hp hm I => ?_⟩⟩
          have hc := hx.c_inv
          obtain ⟨A, cap, sz, rfl, hcap, _, _⟩ := hc.ro_inv
          obtain ⟨_, _, hr⟩ := hc.cutRo hsz hlh hhn
          exact ⟨_, w, run_slice hu hinf (hrun P w vlo vhi cap true hcap b1 b2), Post.same I (.c hr)⟩
      · rename_i id'
        split at H
        · rename_i cl sz es hg
          split at H
          · rename_i hsz
            have hsz := Nat.eq_of_beq_eq_true hsz
            obtain ⟨l, h, hlh, hhn, hrun, hk⟩ := cutK_spec H
            have key : ∀ (w : World) (m : Lm) (R Rf : Bs) (hD : Tr Buf) (vx : Value), VR w m R Rf (.c (.ref id')) vx → hD.get id' = s.h.get id' → Inv B w m R Rf hD →
                ∃ A cap, vx = .slice A es.length cap ∧ es.length ≤ cap ∧ CR w m R Rf (.sub id' l (h - l)) (cutV (P.cellsOf e) A l h cap) := by
              intro w m R Rf hD vx hx hag I
              obtain ⟨A, n, cap, rfl, hn, hs⟩ := hx.c_inv.as_sub
              have hlen : n = es.length := by
                rcases I.br id' _ (hag.trans hg) with ⟨rfl, hm'⟩ | ⟨b, base, N, hm', hW, hN, hs', hE⟩
                · cases hx.c_inv with
                  | ref0 _ => rfl
                  | ref hm2 _ _ _ => rw [hm'] at hm2; cases hm2
                · cases hx.c_inv with
                  | ref0 hm2 => rw [hm'] at hm2; cases hm2
                  | ref hm2 _ _ _ => rw [hm'] at hm2; cases hm2; rfl
              subst hlen
              have hz : ∀ b base z n, m id' = some (.row b base z n) → z = P.cellsOf e := by
                intro b base z n hm2
                rcases I.br id' _ (hag.trans hg) with ⟨rfl, hm'⟩ | ⟨b, base, N, hm', hW, hN, hs', hE⟩
                · rw [hm'] at hm2; cases hm2
                · rw [hm'] at hm2; cases hm2; exact hsz
              have := (hs.cut hz hlh hhn).2.2
              rw [Nat.zero_add] at this
              exact ⟨A, cap, rfl, hn, this⟩
            rcases hk with ⟨rfl, rfl, hk⟩ | ⟨rfl, hk⟩ | ⟨rfl, hk⟩ | hk
            · refine ⟨_, [id'], hk, fun vx vlo vhi b1 b2 => ⟨by simp, fun w m R Rf hD hx hag hp hm I => ?_⟩⟩
              obtain ⟨A, cap, rfl, hcap, hr⟩ := key w m R Rf hD vx hx (hag id' (by simp)) I
              refine ⟨_, w, run_slice hu hinf (hrun P w vlo vhi cap true hcap b1 b2), Post.same I ?_⟩
              have : cutV (P.cellsOf e) A 0 es.length cap = .slice A es.length cap := by
                unfold cutV
                simp only [Nat.zero_mul, Nat.sub_zero]
                congr 1
                split
                · rfl
                · cases A with
                  | none => rfl
                  | some a => simp [Addr.add]
              rw [this]; exact hx
            all_goals
              refine ⟨_, [id'], hk, fun vx vlo vhi b1 b2 => ⟨by simp, fun w m R Rf hD hx hag hp hm I => ?_⟩⟩
              obtain ⟨A, cap, rfl, hcap, hr⟩ := key w m R Rf hD vx hx (hag id' (by simp)) I
              exact ⟨_, w, run_slice hu hinf (hrun P w vlo vhi cap true hcap b1 b2), Post.same I (.c (by simpa using hr))⟩
          · cases H
        · cases H
      · rename_i id' off len
        split at H
        · rename_i cl sz es hg
          split at H
          · rename_i hsz
            have hsz := Nat.eq_of_beq_eq_true hsz
            obtain ⟨l, h, hlh, hhn, hrun, hk⟩ := cutK_spec H
            have key : ∀ (w : World) (m : Lm) (R Rf : Bs) (hD : Tr Buf) (vx : Value), VR w m R Rf (.c (.sub id' off len)) vx → hD.get id' = s.h.get id' → Inv B w m R Rf hD →
                ∃ A cap, vx = .slice A len cap ∧ len ≤ cap ∧ CR w m R Rf (.sub id' (off + l) (h - l)) (cutV (P.cellsOf e) A l h cap) := by
              intro w m R Rf hD vx hx hag I
              have hc := hx.c_inv
              have : ∃ A cap, vx = .slice A len cap ∧ len ≤ cap := by
                cases hc with
                | sub0 _ => exact ⟨_, _, rfl, Nat.le_refl _⟩
                | subE _ _ _ _ => exact ⟨_, _, rfl, Nat.le_refl _⟩
                | sub _ _ hl _ _ => exact ⟨_, _, rfl, hl⟩
              obtain ⟨A, cap, rfl, hcap⟩ := this
              have hz : ∀ b base z n, m id' = some (.row b base z n) → z = P.cellsOf e := by
                intro b base z n hm2
                rcases I.br id' _ (hag.trans hg) with ⟨rfl, hm'⟩ | ⟨b, base, N, hm', hW, hN, hs', hE⟩
                · rw [hm'] at hm2; cases hm2
                · rw [hm'] at hm2; cases hm2; exact hsz
              exact ⟨A, cap, rfl, hcap, (hc.cut hz hlh hhn).2.2⟩
            rcases hk with ⟨rfl, rfl, hk⟩ | ⟨rfl, hk⟩ | ⟨rfl, hk⟩ | hk
            all_goals
              refine ⟨_, [id'], hk, fun vx vlo vhi b1 b2 => ⟨by simp, fun w m R Rf hD hx hag hp hm I => ?_⟩⟩
              obtain ⟨A, cap, rfl, hcap, hr⟩ := key w m R Rf hD vx hx (hag id' (by simp)) I
              exact ⟨_, w, run_slice hu hinf (hrun P w vlo vhi cap true hcap b1 b2), Post.same I (.c (by simpa using hr))⟩
          · cases H
        · cases H
      · obtain ⟨l, h, hlh, hhn, hrun, hk⟩ := cutK_spec H
        have fin : K (.c (.v (.slice none 0 0))) s [] [] = some out := by rcases hk with ⟨_, _, hk⟩ | ⟨_, hk⟩ | ⟨_, hk⟩ | hk <;> exact hk
        refine ⟨_, [], fin, fun vx vlo vhi b1 b2 => ⟨by simp, fun w m R Rf hD hx hag hp hm I => ?_⟩⟩
        have := hx.v_inv; subst this
        refine ⟨_, w, run_slice hu hinf (hrun P w vlo vhi 0 true (Nat.le_refl _) b1 b2), Post.same I ?_⟩
        have h1 : l = 0 := by omega
        have h2 : h = 0 := by omega
        subst h1; subst h2
        exact .c (.v rfl)
      · cases H
  · cases H
end Go.AM

namespace Go.AM
open Go.RowKit

variable {B : Base} {w w' : World} {m : Lm} {R Rf : Bs} {h : Tr Buf} {P : Program} {β : Type}

theorem run_arr_mapM {α γ : Type} (f : α → Sem γ) (g : α → γ) (xs : Array α) (h : ∀ x ∈ xs.toList, (f x).run P w = .ok (g x) w) : (xs.mapM f).run P w = .ok (xs.map g) w := by
  rw [Array.mapM_eq_foldlM, ← Array.foldlM_toList]
  have key : ∀ (l : List α) (acc : Array γ), (∀ x ∈ l, (f x).run P w = .ok (g x) w) → (List.foldlM (fun bs a => bs.push <$> f a) acc l).run P w = .ok (acc ++ (l.map g).toArray) w := by
    intro l
    induction l with
    | nil => intro acc _; simp
    | cons x r ih =>
      intro acc hl
      rw [List.foldlM_cons, map_eq_pure_bind]
      simp only [Sem.run_bind, hl x (by simp), Result.andThen_ok, Sem.run_pure]
      rw [ih _ fun y hy => hl y (by simp [hy])]
      simp
  rw [key _ _ h]
  congr 1
  apply Array.ext'
  simp

def PartR (s : S) (w : World) (m : Lm) (R Rf : Bs) (p : Nat × Operand) (q : Nat × Value) : Prop := p.1 = q.1 ∧ ∃ a, s.op p.2 = some a ∧ VR w m R Rf a q.2

def lay (off : Nat) (cs : Array Value) (l : List (Value × Nat)) : Array Value := l.foldl (fun cs (p : Value × Nat) => cs.setIfInBounds (off + p.2) p.1) cs
theorem lay_spec (off : Nat) : ∀ (vs : List Value) (k : Nat) (arr : Array Value), off + k + vs.length ≤ arr.size → (lay off arr (vs.zipIdx k)).size = arr.size ∧
    ∀ j, (lay off arr (vs.zipIdx k))[j]? = if off + k ≤ j ∧ j < off + k + vs.length then vs[j - (off + k)]? else arr[j]? := by
  intro vs
  induction vs with
  | nil => intro k arr _; exact ⟨rfl, fun j => by rw [if_neg (by simp <;> omega)]; rfl⟩
  | cons v r ih =>
    intro k arr hl
    simp only [List.length_cons] at hl
    have e : lay off arr ((v :: r).zipIdx k) = lay off (arr.setIfInBounds (off + k) v) (r.zipIdx (k + 1)) := rfl
    rw [e]
    obtain ⟨h1, h2⟩ := ih (k + 1) (arr.setIfInBounds (off + k) v) (by simp; omega)
    refine ⟨by rw [h1]; simp, fun j => ?_⟩
    rw [h2]
    simp only [List.length_cons]
    by_cases hj : off + (k + 1) ≤ j ∧ j < off + (k + 1) + r.length
    · rw [if_pos hj, if_pos (by omega), show j - (off + k) = (j - (off + (k + 1))) + 1 by omega, List.getElem?_cons_succ]
    · rw [if_neg hj, Array.getElem?_setIfInBounds]
      by_cases e : off + k = j
      · subst e; rw [if_pos rfl, if_pos (by omega), if_pos (by omega)]; simp
      · rw [if_neg e, if_neg (by omega)]

theorem fill_step {place : Nat → Option (Nat × Nat)} {arr : Array Value} {i o n : Nat} {v : Value} {r : List (Nat × Value)} (hp : place i = some (o, n)) (h1 : v.cells.size = n) (h2 : o + n ≤ arr.size) :
    Instr.fill place arr ((i, v) :: r) = Instr.fill place (lay o arr (v.cells.toList.zipIdx 0)) r := by
  conv => lhs; unfold Instr.fill
  simp only [hp]
  rw [if_neg (by simp; omega)]
  congr 1
  unfold lay
  rw [← Array.toList_zipIdx, Array.foldl_toList]

theorem Fa.laid {w : World} {m : Lm} {R Rf : Bs} {cs vs : List AC} {arr : Array Value} {us : List Value} {o : Nat} (hf : Fa (CR w m R Rf) cs arr.toList) (hv : Fa (CR w m R Rf) vs us) (hl : o + vs.length ≤ cs.length) :
    Fa (CR w m R Rf) (splice cs o vs) (lay o arr (us.zipIdx 0)).toList := by
  have h1 := hf.length
  have h2 := hv.length
  simp only [Array.length_toList] at h1
  obtain ⟨e1, e2⟩ := lay_spec o us 0 arr (by omega)
  refine Fa.of_get (by rw [splice_length]; simp [e1, h1]) fun k a b ha hb => ?_
  rw [splice_get cs o vs k hl] at ha
  rw [Array.getElem?_toList, e2] at hb
  by_cases hk : o ≤ k ∧ k < o + vs.length
  · rw [if_pos hk] at ha
    rw [if_pos (by omega)] at hb
    obtain ⟨u, hu, hr⟩ := hv.get _ _ ha
    rw [Nat.add_zero, hu] at hb; cases hb; exact hr
  · rw [if_neg hk] at ha
    rw [if_neg (by omega)] at hb
    obtain ⟨u, hu, hr⟩ := hf.get _ _ ha
    rw [Array.getElem?_toList, hb] at hu; cases hu; exact hr

theorem fillC_good {s : S} {place place' : Nat → Option (Nat × Nat)} (hp : ∀ i o n, place i = some (o, n) → place' i = some (o, n)) : ∀ {parts : List (Nat × Operand)} {cs out : List AC}, fillC s place parts cs = some out →
    ∀ {w : World} {m : Lm} {R Rf : Bs} {arr : Array Value} {vps : List (Nat × Value)}, Fa (PartR s w m R Rf) parts vps → Fa (CR w m R Rf) cs arr.toList → ∃ arr', Instr.fill place' arr vps = some arr' ∧ Fa (CR w m R Rf) out arr'.toList := by
  intro parts
  induction parts with
  | nil => intro cs out H w m R Rf arr vps hv hf; cases hv; cases H; exact ⟨arr, rfl, hf⟩
  | cons p r ih =>
    intro cs out H w m R Rf arr vps hv hf
    obtain ⟨i, x⟩ := p
    cases hv with
    | @cons _ q _ vps hpq hr =>
      obtain ⟨j, v⟩ := q
      obtain ⟨e, a, ha, hva⟩ := hpq
      simp only at e ha hva
      subst e
      unfold fillC at H
      split at H
      · rename_i o n av hpl hop
        rw [ha] at hop; cases hop
        split at H
        · rename_i vs hvs
          split at H
          · rename_i hc
            rw [Bool.and_eq_true] at hc
            have h1 := Nat.eq_of_beq_eq_true hc.1
            have h2 := Nat.le_of_ble_eq_true hc.2
            have hcs := hva.cells hvs
            have hlen := hcs.length
            have hfl := hf.length
            simp only [Array.length_toList] at hlen hfl
            rw [fill_step (hp _ _ _ hpl) (by omega) (by omega)]
            exact ih H hr (hf.laid hcs (by omega))
          · cases H
        · cases H
      · cases H

theorem buildK_good {t : TypeId} {parts : List (Nat × Operand)} {s : S} {K : KT β} {out : β} (H : buildK P t parts s K = some out) :
    ∃ v, K v s [] [] = some out ∧ ∀ (w : World) (m : Lm) (R Rf : Bs) (vps : List (Nat × Value)), Fa (PartR s w m R Rf) parts vps → ∃ val, (Instr.build t vps.toArray).run P w = .ok val w ∧ VR w m R Rf v val := by
  unfold buildK at H
  split at H
  · rename_i z hpt hz
    split at H
    · rename_i cs hfc
      refine ⟨_, H, fun w m R Rf vps hv => ?_⟩
      obtain ⟨i, zv, hi, hz1, rfl, hs, hn⟩ := zeroCs_spec hz
      have hz0 : Fa (CR w m R Rf) (zv.cells.toList.map .v) zv.cells.toList := Fa.of_v hs
      unfold partsT at hpt
      split at hpt
      · rename_i fs hu
        rw [List.all_eq_true] at hpt
        have hpl : ∀ i o n, placeOf P t i = some (o, n) → (fs.map fun f => (f.offset, P.cellsOf f.type))[i]? = some (o, n) := by
          intro i o n hh
          simp only [placeOf, hu] at hh
          split at hh
          · rename_i f hf
            cases hh
            simp [hf]
          · cases hh
        obtain ⟨arr', h1, h2⟩ := fillC_good (place' := fun i => (fs.map fun f => (f.offset, P.cellsOf f.type))[i]?) hpl hfc hv hz0
        refine ⟨.agg arr', ?_, .agg arr' h2⟩
        have hm := run_arr_mapM (P := P) (w := w) (fun f : Field => do pure (f.offset, ← sizeOf f.type)) (fun f => (f.offset, P.cellsOf f.type)) fs fun f hf => by
          obtain ⟨inf, hinf⟩ := Option.isSome_iff_exists.1 (hpt f hf)
          simp only [Sem.run_bind, run_size hinf, Result.andThen_ok, Sem.run_pure]
        simp only [Instr.build, Sem.run_bind, run_zero hi hz1, Result.andThen_ok, run_under hu, hm, h1, Sem.run_pure]
      · rename_i len e hu
        obtain ⟨inf, hinf⟩ := Option.isSome_iff_exists.1 hpt
        have hpl : ∀ i o n, placeOf P t i = some (o, n) → (fun i => some (i * P.cellsOf e, P.cellsOf e)) i = some (o, n) := by
          intro i o n hh
          simp only [placeOf, hu] at hh
          exact hh
        obtain ⟨arr', h1, h2⟩ := fillC_good hpl hfc hv hz0
        refine ⟨.agg arr', ?_, .agg arr' h2⟩
        simp only [Instr.build, Sem.run_bind, run_zero hi hz1, Result.andThen_ok, run_under hu, run_size hinf, h1, Sem.run_pure]
      · cases hpt
    · cases H
  · cases H

/-! ### Rows in an array -/
def RowsAt (w : World) (Rs : Bs) (sz : Nat) (es : List (List AC)) (arr : Array Value) : Prop :=
  ∀ (i : Nat) (e : List AC), es[i]? = some e → ∀ (k : Nat) (x : AC), e[k]? = some x → ∃ u, arr[i * sz + k]? = some u ∧ CR w noL Rs Rs x u
theorem RowsAt.mono {Rs Rs' : Bs} {sz : Nat} {es : List (List AC)} {arr : Array Value} (E : Ext w w' noL noL Rs Rs' Rs Rs') (H : RowsAt w Rs sz es arr) : RowsAt w' Rs' sz es arr :=
  fun i e he k x hx => let ⟨u, hu, hr⟩ := H i e he k x hx; ⟨u, hu, hr.mono E⟩
theorem ExtS {Rs Rt : Bs} (hs : ∀ k, Rs k → Rt k) : Ext w w noL noL Rs Rt Rs Rt := ⟨fun _ _ => rfl, hs, hs, fun _ => id, fun _ _ => id, fun _ _ _ => id⟩

theorem closeZ_fa {vs : List Value} (h : ∀ x ∈ vs, scalarV x = true) : Fa (CR w m R Rf) (closeZ (vs.map .v)) vs := by
  induction vs with
  | nil => exact .nil
  | cons v r ih =>
    have hr := ih fun x hx => h x (by simp [hx])
    have hv := h v (by simp)
    simp only [List.map_cons]
    unfold closeZ
    split
    · rename_i h1; cases h1
    · rename_i h1; cases h1; exact .cons .ro0 hr
    · rename_i h1 h2; cases h2; exact .cons (.v hv) hr

def zerosOf (zero : Array Value) (n : Nat) : Array Value := (Array.range n).map (zero[· % zero.size]!)
theorem zerosOf_size (zero : Array Value) (n : Nat) : (zerosOf zero n).size = n := by simp [zerosOf]
theorem zerosOf_get {zero : Array Value} {sz len i k : Nat} (hz : zero.size = sz) (hi : i < len) (hk : k < sz) : (zerosOf zero (len * sz))[i * sz + k]? = zero[k]? := by
  have hlt : i * sz + k < len * sz := by
    have := Nat.mul_le_mul_right sz hi
    rw [Nat.succ_mul] at this; omega
  have hm : (i * sz + k) % sz = k := by rw [Nat.mul_comm, Nat.mul_add_mod]; exact Nat.mod_eq_of_lt hk
  subst hz
  simp [zerosOf, hlt, hm, hk]
theorem zeroRows {z : Value} {len sz : Nat} {Rs : Bs} (hs : ∀ x ∈ z.cells.toList, scalarV x = true) (hn : z.cells.size = sz) (arr : Array Value) (ha : ∀ i k, i < len → k < sz → arr[i * sz + k]? = z.cells[k]?) :
    RowsAt w Rs sz (List.replicate len (closeZ (z.cells.toList.map .v))) arr := by
  intro i e he k x hx
  rw [List.getElem?_replicate] at he
  split at he
  · rename_i hi
    cases he
    obtain ⟨u, hu, hr⟩ := (closeZ_fa (w := w) (m := noL) (R := Rs) (Rf := Rs) hs).get k x hx
    rw [Array.getElem?_toList] at hu
    have hk : k < sz := by rw [← hn]; exact (Array.getElem?_eq_some_iff.1 hu).1
    exact ⟨u, by rw [ha i k hi hk]; exact hu, hr⟩
  · cases he
theorem closeZ_length {vs : List Value} : (closeZ (vs.map .v)).length = vs.length := by
  induction vs with
  | nil => rfl
  | cons v r ih =>
    simp only [List.map_cons]
    unfold closeZ
    split
    · rename_i h1; cases h1
    · rename_i h1; cases h1; simp [ih]
    · rename_i h1 h2; cases h2; simp [ih]

/-- A new row out of an array. -/
theorem Post.rowAt {id : Nat} {t' : TypeId} {cl : Bool} {sz cap : Nat} {es : List (List AC)} {c : Array Value} (I : Inv B w m R Rf h) (hp : B.p ≤ id) (hn : m id = none)
    (hf : RowsAt w (sel cl Rf R) sz es c) (hs : ∀ e ∈ es, e.length = sz) (hcap : es.length ≤ cap) (hsz : cap * sz ≤ c.size) :
    Post B id [(id, some (.row cl sz es))] h (.c (.ref id)) w m R Rf (.slice (some ⟨w.heap.size, 0, none⟩) es.length cap) (pushC w c t') := by
  have M := More.pushC w c t'
  have E : Ext w (pushC w c t') m (updM m id (.row w.heap.size 0 sz es.length)) R R Rf Rf := Ext.new I M hn
  refine ⟨_, R, Rf, I.new M hp hn (l := .row w.heap.size 0 sz es.length) rfl (Nat.le_refl _) (by rw [pushC_size]; omega) ?_, ?_, E, fun i hi => updM_ne m _ hi⟩
  · refine .inr ⟨w.heap.size, 0, c.size, updM_same _ _ _, pushC_wr w c t', ?_, hs, ?_⟩
    · have := Nat.mul_le_mul_right sz hcap; omega
    · intro i e he k x hx
      obtain ⟨u, hu, hr⟩ := hf i e he k x hx
      exact ⟨u, by rw [Nat.zero_add, pushC_cell]; exact hu, hr.mono (E.sel cl)⟩
  · exact .c (.ref (updM_same _ _ _) hcap (pushC_shape w c t') (by omega))

theorem run_askRoom' (n : Nat) : (askRoom n).run P w = .ok () w := by
  unfold askRoom; split <;> rfl
theorem wrap64 {l : Int} (h0 : 0 ≤ l) (h1 : l < 9223372036854775808) : IntKind.i64.wrap l = l := by
  simp [IntKind.wrap, IntKind.bits, IntKind.signed]
  omega
theorem makeSliceK_good {st : Bool} {id : Nat} {t : TypeId} {l c : AV} {s : S} {K : KT β} {out : β} (H : makeSliceK st P id t l c s K = some out) :
    ∃ v U rd wr, K v { s with h := applyU U s.h } rd wr = some out ∧ ∀ vl vc, Does B P id U s.h rd wr v (fun w m R Rf => VR w m R Rf l vl ∧ VR w m R Rf c vc) fun _ => Instr.makeSlice t vl vc := by
  unfold makeSliceK at H
  split at H
  · rename_i e k1 l k2 c he
    split at H
    · rename_i z hz hbz
      have H1 := itet_some H
      clear H
      obtain ⟨hl, H⟩ := H1
      have H1 := itet_some H
      clear H
      obtain ⟨hlc, H⟩ := H1
      have H1 := itet_some H
      clear H
      obtain ⟨hc, H⟩ := H1
      rw [putH_eq] at H
      simp only [decide_eq_true_eq] at hl hlc hc
      obtain ⟨hu, inf, hinf⟩ := elemT_spec he
      obtain ⟨i, zv, hi, hz1, rfl, hs, hn⟩ := zeroCs_spec hz
      rw [hinf] at hi; cases hi
      have hb1 : 1 ≤ P.bytesOf e := by
        rcases Nat.eq_zero_or_pos (P.bytesOf e) with h0 | h0
        · rw [h0] at hbz; cases hbz
        · exact h0
      have hbi : inf.bytes = P.bytesOf e := (bytes_info hinf).symm
      have hcs : c ≤ 281474976710656 := by
        have h1 : c * 1 ≤ c * (P.bytesOf e : Int) := Int.mul_le_mul_of_nonneg_left (by omega) (by omega)
        rw [Int.mul_comm c (P.bytesOf e : Int)] at h1
        omega
      refine ⟨_, [(id, some (.row true (P.cellsOf e) (List.replicate l.toNat (closeZ (zv.cells.toList.map .v)))))], [], [], H, fun vl vc => ⟨by simp, fun w m R Rf hD hx hag hp hm I => ?_⟩⟩
      have := hx.1.v_inv; subst this
      have := hx.2.v_inv; subst this
      have w1 : IntKind.i64.wrap l = l := wrap64 hl (by omega)
      have w2 : IntKind.i64.wrap c = c := wrap64 (by omega) (by omega)
      have key : (Instr.makeSlice t (.int k1 l) (.int k2 c)).run P w = .ok (.slice (some ⟨w.heap.size, 0, none⟩) l.toNat c.toNat) (pushC w (zerosOf zv.cells (c.toNat * P.cellsOf e)) e) := by
        have hb : (decide (c < 0) || decide ((inf.bytes : Int) * c > 2 ^ 48)) = false := by
          rw [hbi]; simp; omega
        have hll : (decide (l < 0)) = false := by simp; omega
        have hgt : (decide (l > c)) = false := by simp; omega
        simp only [Instr.makeSlice, Sem.run_bind, run_under hu, Result.andThen_ok, asInt, asIntOf, Sem.run_pure, run_info hinf, w1, w2, hb, hll, hgt, Bool.or_self, Bool.false_eq_true, if_false, run_askRoom', run_size hinf]
        by_cases h0 : c.toNat * P.cellsOf e = 0
        · rw [if_pos h0]
          simp only [Sem.run_bind, Sem.run_pure, Result.andThen_ok, h0, run_newRow]
          congr 2
          unfold zerosOf
          apply Array.ext <;> simp
        · rw [if_neg h0]
          simp only [Sem.run_bind, run_zero hinf hz1, Result.andThen_ok, Sem.run_pure, run_newRow]
          rfl
      have hrows : RowsAt w (sel true Rf R) (P.cellsOf e) (List.replicate l.toNat (closeZ (zv.cells.toList.map .v))) (zerosOf zv.cells (c.toNat * P.cellsOf e)) :=
        zeroRows hs hn _ fun i k hi hk => zerosOf_get hn (by omega) hk
      have hP := Post.rowAt (t' := e) (id := id) (cap := c.toNat) I hp hm hrows (fun e' he' => by rw [List.eq_of_mem_replicate he', closeZ_length]; simpa using hn) (by simp; omega) (by rw [zerosOf_size]; exact Nat.le_refl _)
      rw [List.length_replicate] at hP
      exact ⟨_, _, key, hP⟩
    · cases H
  · cases H
end Go.AM

