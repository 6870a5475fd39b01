/-
  A walker by reckoning: what each operation, a region, a code and a call leave.
-/
/-
  A walker by reckoning: regions that draw their order, codes, calls.
-/
/-
  A walker by reckoning: what a memory with names says of a world; what a step leaves.
-/
import Derived.Test.YtigjjddblijpbaaGreatDoorZ1
namespace Go.Proofs.YtigjjddblijpbaaGreatDoor.Ex
open Go
noncomputable section

/-- A block: its cells; a row of which the first cells are known; a map, its entries in any order, each with the name of its stamp; an iterator: over which map, stamps that are older than it, stamps that it has handed out. -/
inductive AO where
  | c (l : List Value) (T : Nat)
  | r (l : List Value) (T : Nat) (z : Nat)
  | m (es : List (Value × Value × Nat))
  | it (m : Option Nat) (ts seen : List Nat)
abbrev Hp := Tr AO
abbrev Res := Value × Hp × Nat × List Nat
abbrev Cl := Nat → List Value → Hp → Nat → Option Res
/-- What is known of numbers: bounds; what operations leave; which struct types' keys differ where their first cells do. -/
structure Cx where
  bd : List (Int × Int)
  facts : List (BinOp × Value × Value × Value)
  convs : List (Nat × Nat × Value × Value)
  keys : List Nat
  eqs : List Nat
inductive R where
  | v (x : Value)
  | s (x : Value) (H : Hp) (nx : Nat) (wr : List Nat)
  | call (f : Nat) (args : List Value)
def D : Nat := 24
def nth {α : Type} (l : List α) : Nat → Option α :=
  listRec (fun _ => none) (fun a _ ih n => natCase (some a) (fun n => ih n) n) l
/-- The first n, if there are so many. -/
def takeX {α : Type} (n : Nat) : List α → Option (List α) :=
  natRec (fun _ => some []) (fun _ ih l => listCase none (fun a tl => match ih tl with
    | some r => some (a :: r)
    | none => none) l) n
def dropX {α : Type} (n : Nat) : List α → List α :=
  natRec (fun l => l) (fun _ ih l => listCase [] (fun _ tl => ih tl) l) n
/-- A row with some cells put in from o on, if there are so many. -/
def putX (o : Nat) (vs : List Value) : List Value → Option (List Value) :=
  natRec (fun cs => listRec (fun cs => some cs) (fun v _ ih cs => listCase none (fun _ tl => match ih tl with
    | some r => some (v :: r)
    | none => none) cs) vs cs) (fun _ ih cs => listCase none (fun a tl => match ih tl with
    | some r => some (a :: r)
    | none => none) cs) o
def zeroL (P : Program) (T : Nat) : Option (List Value) :=
  match P.info? T with
  | some i => match i.zero with
    | some z => some (cellsL z)
    | none => none
  | none => none
def szOf (P : Program) (T : Nat) : Option Nat :=
  match P.info? T with
  | some i => some i.size
  | none => none
/-- Is a type's value a row of cells? -/
def rowB : TypeDesc → Bool
  | .struct _ => true
  | .array _ _ => true
  | _ => false
def loadL (P : Program) (T : Nat) (cs : List Value) (o : Nat) : Option Value :=
  match P.underlying T with
  | none => none
  | some d => match rowB d with
    | true => match szOf P T with
      | none => none
      | some n => match takeX n (dropX o cs) with
        | some l => some (.agg ⟨l⟩)
        | none => none
    | false => nth cs o
def fillL (place : Nat → Option (Nat × Nat)) : List Value → List (Nat × Value) → Option (List Value)
  | cs, [] => some cs
  | cs, (i, v) :: ps => match place i with
    | none => none
    | some (off, sz) => match Nat.beq (cellsL v).length sz with
      | false => none
      | true => match putX off (cellsL v) cs with
        | none => none
        | some cs' => fillL place cs' ps
def vals (ρ : Operand → Option Value) : List Operand → Option (List Value)
  | [] => some []
  | x :: l => match ρ x with
    | none => none
    | some v => match vals ρ l with
      | none => none
      | some vs => some (v :: vs)
def parts (ρ : Operand → Option Value) : List (Nat × Operand) → Option (List (Nat × Value))
  | [] => some []
  | (i, x) :: l => match ρ x with
    | none => none
    | some v => match parts ρ l with
      | none => none
      | some vs => some ((i, v) :: vs)
def ev (tm : Tr Value) : Operand → Option Value
  | .tmp t => tm.get t
  | .const v => match lit v with
    | true => some v
    | false => none
  | .global _ => none
  | .func f => some (.func (.func f) ⟨[]⟩ ⟨[]⟩)
def eqK : IntKind → IntKind → Bool
  | .i8, .i8 | .i16, .i16 | .i32, .i32 | .i64, .i64 | .u8, .u8 | .u16, .u16 | .u32, .u32 | .u64, .u64 => true
  | _, _ => false
def iB (a b : Int) : Bool :=
  match a, b with
  | .ofNat a, .ofNat b => Nat.beq a b
  | .negSucc a, .negSucc b => Nat.beq a b
  | _, _ => false
/-- Are two cells told alike? -/
def veq : Value → Value → Bool
  | .int k a, .int k' b => match eqK k k' with
    | true => iB a b
    | false => false
  | .float .f64 a, .float .f64 b => Nat.beq a b
  | .complex .f32 a m, .complex .f32 b m' => match Nat.beq a b with
    | true => Nat.beq m m'
    | false => false
  | .complex .f64 a m, .complex .f64 b m' => match Nat.beq a b with
    | true => Nat.beq m m'
    | false => false
  | .bool a, .bool b => a == b
  | _, _ => false
def veqL : List Value → List Value → Bool
  | [], [] => true
  | a :: l, b :: l' => match veq a b with
    | true => veqL l l'
    | false => false
  | _, _ => false
/-- Are two values told alike, rows of cells too? -/
def veqA : Value → Value → Bool
  | .agg ⟨l⟩, .agg ⟨l'⟩ => veqL l l'
  | a, b => veq a b
def veqAL : List Value → List Value → Bool
  | [], [] => true
  | a :: l, b :: l' => match veqA a b with
    | true => veqAL l l'
    | false => false
  | _, _ => false
/-- What calls leave that touch nothing: the function, the arguments, the result. -/
def lookF : List (Nat × List Value × Value) → Nat → List Value → Option Value
  | [], _, _ => none
  | (f, a, r) :: l, g, x => match Nat.beq f g with
    | false => lookF l g x
    | true => match veqAL a x with
      | true => some r
      | false => lookF l g x
def eqO : BinOp → BinOp → Bool
  | .add, .add | .sub, .sub | .mul, .mul | .quo, .quo | .rem, .rem | .and, .and | .or, .or | .xor, .xor | .shl, .shl | .shr, .shr | .andNot, .andNot
  | .eql, .eql | .neq, .neq | .lss, .lss | .leq, .leq | .gtr, .gtr | .geq, .geq => true
  | _, _ => false
def look : List (BinOp × Value × Value × Value) → BinOp → Value → Value → Option Value
  | [], _, _, _ => none
  | (o, a, b, r) :: l, op, x, y => match eqO o op with
    | false => look l op x y
    | true => match veq a x with
      | false => look l op x y
      | true => match veq b y with
        | false => look l op x y
        | true => some r
def lookC : List (Nat × Nat × Value × Value) → Nat → Nat → Value → Option Value
  | [], _, _, _ => none
  | (s, d, a, r) :: l, src, dst, x => match Nat.beq s src && Nat.beq d dst with
    | false => lookC l src dst x
    | true => match veq a x with
      | false => lookC l src dst x
      | true => some r
def fitI : Int → Bool
  | .ofNat a => Nat.ble a 9223372036854775807
  | .negSucc a => Nat.ble a 9223372036854775807
/-- A number brought into its kind. -/
def wrapF (k : IntKind) (n : Int) : Int :=
  match k with
  | .i64 => match fitI n with
    | true => n
    | false => k.wrap n
  | k => k.wrap n
def ltI (a b : Int) : Bool :=
  match a, b with
  | .ofNat a, .ofNat b => Nat.blt a b
  | .negSucc _, .ofNat _ => true
  | .ofNat _, .negSucc _ => false
  | .negSucc a, .negSucc b => Nat.blt b a
def leI (a b : Int) : Bool := !(ltI b a)
def eqI1 (a b : Int) : Bool :=
  match a, b with
  | .ofNat a, .ofNat b => Nat.beq a b
  | .negSucc a, .negSucc b => Nat.beq a b
  | _, _ => false
def cmpB (op : BinOp) (a b : Int) : Option Bool :=
  match op with
  | .eql => some (eqI1 a b)
  | .neq => some (!eqI1 a b)
  | .lss => some (ltI a b)
  | .leq => some (leI a b)
  | .gtr => some (ltI b a)
  | .geq => some (leI b a)
  | _ => none
def intBin2 (op : BinOp) (k : IntKind) (a b : Int) : Option Value :=
  match op with
  | .add => some (.int k (wrapF k (a + b)))
  | .sub => some (.int k (wrapF k (a - b)))
  | .mul => some (.int k (wrapF k (a * b)))
  | .quo => match eqI1 b 0 with
    | true => none
    | false => some (.int k (wrapF k (a.tdiv b)))
  | .rem => match eqI1 b 0 with
    | true => none
    | false => some (.int k (a.tmod b))
  | .and => some (.int k (k.wrap (BitVec.ofInt k.bits a &&& BitVec.ofInt k.bits b).toNat))
  | .or => some (.int k (k.wrap (BitVec.ofInt k.bits a ||| BitVec.ofInt k.bits b).toNat))
  | .xor => some (.int k (k.wrap (BitVec.ofInt k.bits a ^^^ BitVec.ofInt k.bits b).toNat))
  | op => match cmpB op a b with
    | some t => some (.bool t)
    | none => none
def intBin3 (op : BinOp) (k : IntKind) (a : Int) (k' : IntKind) (b : Int) : Option Value :=
  match eqK k k' with
  | false => none
  | true => intBin2 op k a b
def intBin (op : BinOp) (k : IntKind) (a : Int) (k' : IntKind) (b : Int) : Option Value :=
  match op with
  | .shl => match ltI b 0 with
    | true => none
    | false => some (.int k (k.wrap (a * 2 ^ (min b.toNat k.bits))))
  | .shr => match ltI b 0 with
    | true => none
    | false => some (.int k (a.fdiv (2 ^ (min b.toNat k.bits))))
  | op => intBin3 op k a k' b
/-- Bounds of a number. -/
def bnd (C : Cx) : Value → Option (Int × Int)
  | .int .i64 n => some (n, n)
  | .complex .f32 j 0 => nth C.bd j
  | _ => none
def cmpR (op : BinOp) (a b : Int × Int) : Option Value :=
  match op with
  | .lss => match ltI a.2 b.1 with
    | true => some (.bool true)
    | false => match leI b.2 a.1 with
      | true => some (.bool false)
      | false => none
  | .leq => match leI a.2 b.1 with
    | true => some (.bool true)
    | false => match ltI b.2 a.1 with
      | true => some (.bool false)
      | false => none
  | .gtr => match ltI b.2 a.1 with
    | true => some (.bool true)
    | false => match leI a.2 b.1 with
      | true => some (.bool false)
      | false => none
  | .geq => match leI b.2 a.1 with
    | true => some (.bool true)
    | false => match ltI a.2 b.1 with
      | true => some (.bool false)
      | false => none
  | .eql => match ltI a.2 b.1 || ltI b.2 a.1 with
    | true => some (.bool false)
    | false => none
  | .neq => match ltI a.2 b.1 || ltI b.2 a.1 with
    | true => some (.bool true)
    | false => none
  | _ => none
def addS (x y : Value) : Option Value :=
  match x, y with
  | .int .i64 n, .complex .f32 j 0 => match eqI1 n 0 with
    | true => some (.complex .f32 j 0)
    | false => none
  | .complex .f32 j 0, .int .i64 n => match eqI1 n 0 with
    | true => some (.complex .f32 j 0)
    | false => none
  | _, _ => none
def subS (x y : Value) : Option Value :=
  match x, y with
  | .complex .f32 j 0, .int .i64 n => match eqI1 n 0 with
    | true => some (.complex .f32 j 0)
    | false => none
  | _, _ => none
def symBin (C : Cx) (op : BinOp) (x y : Value) : Option Value :=
  match bnd C x, bnd C y with
  | some a, some b => match op with
    | .add => addS x y
    | .sub => subS x y
    | .eql => match veq x y with
      | true => some (.bool true)
      | false => cmpR .eql a b
    | op => cmpR op a b
  | _, _ => none
/-- Are two of them alike, of which one is nil? -/
def eqNil (P : Program) (T : Nat) (x y : Value) : Option Bool :=
  match P.underlying T, x, y with
  | some (.pointer _), .pointer none, .pointer b => some b.isNone
  | some (.pointer _), .pointer (some _), .pointer none => some false
  | some (.slice _), .slice none _ _, .slice b _ _ => some b.isNone
  | some (.slice _), .slice (some _) _ _, .slice none _ _ => some false
  | some (.map _ _), .map none, .map b => some b.isNone
  | some (.map _ _), .map (some _), .map none => some false
  | some (.func _ _ _), .nilFunc, .nilFunc => some true
  | some (.func _ _ _), .nilFunc, .func _ _ _ => some false
  | some (.func _ _ _), .func _ _ _, .nilFunc => some false
  | some .bool, .bool a, .bool b => some (a == b)
  | _, _, _ => none
def eqOp (op : BinOp) (b : Bool) : Option Value :=
  match op with
  | .eql => some (.bool b)
  | .neq => some (.bool (!b))
  | _ => none
/-- Are two rows of four numbers alike? -/
def eq4 : List Value → List Value → Option Bool
  | [.int .i64 a, .int .i64 b, .int .i64 c, .int .i64 d], [.int .i64 a', .int .i64 b', .int .i64 c', .int .i64 d'] => some (eqI1 a a' && (eqI1 b b' && (eqI1 c c' && eqI1 d d')))
  | _, _ => none
def binV2 (C : Cx) (P : Program) (op : BinOp) (T : Nat) (x y : Value) : Option Value :=
  match look C.facts op x y with
  | some v => some v
  | none => match symBin C op x y with
    | some v => some v
    | none => match eqNil P T x y with
      | some b => eqOp op b
      | none => none
def binV (C : Cx) (P : Program) (op : BinOp) (T : Nat) (x y : Value) : Option Value :=
  match x, y with
  | .int k a, .int k' b => intBin op k a k' b
  | .agg ⟨l⟩, .agg ⟨l'⟩ => match C.eqs.any (Nat.beq T), eq4 l l' with
    | true, some b => eqOp op b
    | _, _ => none
  | x, y => binV2 C P op T x y
def unV (op : UnOp) (x : Value) : Option Value :=
  match op, x with
  | .not, .bool b => some (.bool (!b))
  | .neg, .int k n => some (.int k (wrapF k (0 - n)))
  | _, _ => none
def convV (C : Cx) (P : Program) (s d : Nat) (x : Value) : Option Value :=
  match lookC C.convs s d x with
  | some v => some v
  | none => match P.underlying s, P.underlying d, x with
    | some (.int _), some (.int k), .int _ n => some (.int k (wrapF k n))
    | some (.int _), some (.int .i64), .complex .f32 j 0 => match nth C.bd j with
      | some _ => some (.complex .f32 j 0)
      | none => none
    | _, _, _ => none
def max1 (C : Cx) (x y : Value) : Option Value :=
  match x, y with
  | .int k a, .int k' b => match eqK k k' with
    | false => none
    | true => match ltI a b with
      | true => some (.int k' b)
      | false => some (.int k a)
  | x, y => match bnd C x, bnd C y with
    | some a, some b => match ltI a.2 b.1 with
      | true => some y
      | false => match leI b.2 a.1 with
        | true => some x
        | false => none
    | _, _ => none
def min1 (C : Cx) (x y : Value) : Option Value :=
  match x, y with
  | .int k a, .int k' b => match eqK k k' with
    | false => none
    | true => match ltI b a with
      | true => some (.int k' b)
      | false => some (.int k a)
  | x, y => match bnd C x, bnd C y with
    | some a, some b => match ltI b.2 a.1 with
      | true => some y
      | false => match leI a.2 b.1 with
        | true => some x
        | false => none
    | _, _ => none
def folds (f : Value → Value → Option Value) : Value → List Value → Option Value
  | x, [] => some x
  | x, y :: l => match f x y with
    | none => none
    | some z => folds f z l
/-- The cells behind a slice from its beginning, so many. -/
def behind (H : Hp) : Value → Nat → Option (List Value)
  | .slice (some ⟨l, o, _⟩) _ _, n => match H.get l with
    | some (.c cs _) => takeX n (dropX o cs)
    | some (.r cs _ _) => takeX n (dropX o cs)
    | _ => none
  | _, _ => none
/-- A slice's own row, from the block's beginning: the elements' cells; the block's name. -/
def ownL (H : Hp) (E sz : Nat) : Value → Option (Nat × List Value × List Nat)
  | .slice none n c => match Nat.beq n 0 && Nat.beq c 0 with
    | true => some (0, [], [])
    | false => none
  | .slice (some ⟨l, 0, none⟩) n c => match H.get l with
    | some (.c cs T) => match Nat.beq T E && Nat.beq (c * sz) cs.length && Nat.ble n c && Nat.ble c 100000 with
      | true => match takeX (n * sz) cs with
        | some xs => some (n, xs, [l])
        | none => none
      | false => none
    | _ => none
  | .slice (some ⟨l, 0, some _⟩) n _ => match H.get l with
    | some (.r cs T z) => match Nat.beq T E && Nat.beq z sz with
      | true => match takeX (n * sz) cs with
        | some xs => some (n, xs, [l])
        | none => none
      | false => none
    | _ => none
  | _ => none
def dropL (H : Hp) : List Nat → Hp
  | [] => H
  | l :: ls => dropL (Tr.set D H l none) ls
def repL : Nat → List Value → List Value
  | 0, _ => []
  | n + 1, z => z ++ repL n z
/-- Is a slice's length within its room? -/
def capOk (H : Hp) (sz : Nat) : Value → Bool
  | .slice none n c => Nat.ble n c
  | .slice (some ⟨_, _, none⟩) n c => Nat.ble n c
  | .slice (some ⟨l, _, some _⟩) n _ => match H.get l with
    | some (.r cs _ z) => Nat.beq z sz && Nat.ble (n * sz) cs.length
    | _ => false
  | _ => false
def ltAll (nx : Nat) : List Nat → Bool
  | [] => true
  | l :: ls => match Nat.blt l nx with
    | true => ltAll nx ls
    | false => false
def isIntT (P : Program) (T : Nat) : Bool :=
  match P.underlying T with
  | some (.int _) => true
  | _ => false
def appendV (P : Program) (H : Hp) (nx : Nat) (T T' : Nat) (s x : Value) : Option R :=
  match P.underlying T with
  | some (.slice E) => match P.info? E with
    | none => none
    | some i => match i.zero with
      | none => none
      | some z => match Nat.beq (cellsL z).length i.size && Nat.ble 1 i.size && Nat.ble i.bytes 100000 with
        | false => none
        | true => match isIntT P T' with
          | true => match x with
            | .int _ (.ofNat m) => match litL (cellsL z) && Nat.ble 1 m with
              | false => none
              | true => match s with
                | .slice none 0 0 => match Nat.ble m 100000 with
                  | false => none
                  | true => some (.s (.slice (some ⟨nx, 0, some 0⟩) m 0) (Tr.set D H nx (some (.r (repL m (cellsL z)) E i.size))) (nx + 1) [])
                | _ => none
            | _ => none
          | false => match Nat.beq T T' with
            | false => none
            | true => match x with
              | .slice none 0 0 => match capOk H i.size s with
                | true => some (.v s)
                | false => none
              | .slice (some a) m c => match ownL H E i.size s with
                | none => none
                | some (n, xs, dr) => match behind H (.slice (some a) m c) (m * i.size) with
                  | none => none
                  | some news => match oneL news && Nat.ble 1 m && Nat.ble (n + m) 100000 && ltAll nx dr with
                    | false => none
                    | true => some (.s (.slice (some ⟨nx, 0, some 0⟩) (n + m) 0) (Tr.set D (dropL H dr) nx (some (.r (xs ++ news) E i.size))) (nx + 1) dr)
              | _ => none
  | _ => none
def litI : Value → Option Int
  | .int _ n => some n
  | _ => none
def toN (n : Int) : Option Nat :=
  match n with
  | .ofNat n => some n
  | .negSucc _ => none
def litN (v : Value) : Option Nat :=
  match v with
  | .int _ (.ofNat n) => some n
  | _ => none
/-- Bounds of a reslice: from, as far as, room; the slice's length and room (if told). -/
def bounds (len : Nat) (cap : Option Nat) (lo hi mx : Option (Option Value)) : Option (Nat × Nat × Option Nat) :=
  match (match mx with
    | none => some cap
    | some (some v) => match litN v, cap with
      | some m, some c => match Nat.ble m c with
        | true => some (some m)
        | false => none
      | _, _ => none
    | some none => none) with
  | none => none
  | some m => match (match hi with
      | none => (match mx with | none => some len | some _ => none)
      | some (some v) => match litN v with
        | some h => match m with
          | some c => match Nat.ble h c with
            | true => some h
            | false => none
          | none => match Nat.ble h len with
            | true => some h
            | false => none
        | none => none
      | some none => none) with
    | none => none
    | some h => match (match lo with
        | none => some 0
        | some (some v) => match litN v with
          | some l => match Nat.ble l h with
            | true => some l
            | false => none
          | none => none
        | some none => none) with
      | none => none
      | some l => some (l, h, m)
def sliceV (P : Program) (H : Hp) (T : Nat) (x : Value) (lo hi mx : Option (Option Value)) : Option Value :=
  match P.underlying T with
  | some (.slice E) => match szOf P E, x with
    | some _, .slice none n c => match bounds n (some c) lo hi mx with
      | some (l, h, some m) => some (.slice none (h - l) (m - l))
      | _ => none
    | some sz, .slice (some ⟨b, o, none⟩) n c => match bounds n (some c) lo hi mx with
      | some (l, h, some m) => match Nat.beq m l with
        | true => some (.slice (some ⟨b, o, none⟩) (h - l) (m - l))
        | false => some (.slice (some ⟨b, o + l * sz, none⟩) (h - l) (m - l))
      | _ => none
    | some sz, .slice (some ⟨b, o, some s⟩) n c => match capOk H sz (.slice (some ⟨b, o, some s⟩) n c) && Nat.ble 1 sz, bounds n none lo hi mx with
      | true, some (0, h, none) => some (.slice (some ⟨b, o, some s⟩) h c)
      | _, _ => none
    | _, _ => none
  | _ => none
def num1 : Value → Bool
  | .int .i64 _ => true
  | .complex .f32 _ 0 => true
  | _ => false
/-- A key of six cells: three numbers, the first told; three truths. -/
def askOk : List Value → Bool
  | [.int .i64 _, b, c, .bool _, .bool _, .bool _] => match num1 b with
    | true => num1 c
    | false => false
  | _ => false
def fstI : List Value → Option Int
  | .int _ a :: _ => some a
  | _ => none
def keyEq (C : Cx) (T : Nat) (x y : Value) : Option Bool :=
  match x, y with
  | .int k a, .int k' b => match eqK k k' with
    | true => some (eqI1 a b)
    | false => none
  | .agg ⟨l⟩, .agg ⟨l'⟩ => match C.keys.any (Nat.beq T) && (askOk l && askOk l'), fstI l, fstI l' with
    | true, some a, some b => match eqI1 a b with
      | true => none
      | false => some false
    | _, _, _ => none
  | _, _ => none
/-- Where a key stands among entries. -/
def findK (C : Cx) (T : Nat) (k : Value) : List (Value × Value × Nat) → Option (Option (Value × Nat))
  | [] => some none
  | (k', v, t) :: es => match keyEq C T k k' with
    | none => none
    | some true => match findK C T k es with
      | some none => some (some (v, t))
      | _ => none
    | some false => findK C T k es
/-- May a key be looked up? -/
def keyOk (P : Program) (C : Cx) (T : Nat) : Value → Bool
  | .int _ _ => match P.underlying T with
    | some (.int _) => true
    | _ => false
  | .agg ⟨l⟩ => C.keys.any (Nat.beq T) && askOk l
  | _ => false
def putS (t : Nat) (v : Value) : List (Value × Value × Nat) → List (Value × Value × Nat)
  | [] => []
  | (k, u, t') :: es => match Nat.beq t t' with
    | true => (k, v, t') :: putS t v es
    | false => (k, u, t') :: putS t v es
def hasS (t : Nat) : List (Value × Value × Nat) → Bool
  | [] => false
  | (_, _, t') :: es => match Nat.beq t t' with
    | true => true
    | false => hasS t es
def okV (ok : Bool) (v : Value) (b : Bool) : Value :=
  match ok with
  | true => .tuple ⟨[v, .bool b]⟩
  | false => v
def lookupR (P : Program) (E : Nat) (ok : Bool) : Option (Value × Nat) → Option Value
  | some (v, _) => some (okV ok v true)
  | none => match P.info? E with
    | none => none
    | some i => match i.zero with
      | none => none
      | some z => match lit z with
        | false => none
        | true => some (okV ok z false)
def findM (C : Cx) (H : Hp) (K : Nat) (x k : Value) : Option (Option (Value × Nat)) :=
  match x with
  | .map none => some none
  | .map (some l) => match H.get l with
    | some (.m es) => findK C K k es
    | _ => none
  | _ => none
def lookupV (C : Cx) (P : Program) (H : Hp) (T : Nat) (x k : Value) (ok : Bool) : Option Value :=
  match P.underlying T with
  | some (.map K E) => match keyOk P C K k with
    | false => none
    | true => match findM C H K x k with
      | none => none
      | some fr => lookupR P E ok fr
  | _ => none
def updateV (C : Cx) (P : Program) (H : Hp) (nx : Nat) (T : Nat) (x k v : Value) : Option R :=
  match P.underlying T with
  | some (.map K _) => match keyOk P C K k with
    | false => none
    | true => match x with
      | .map (some l) => match Nat.blt l nx, H.get l with
        | true, some (.m es) => match findK C K k es with
          | none => none
          | some (some (_, t)) => some (.s (.tuple ⟨[]⟩) (Tr.set D H l (some (.m (putS t v es)))) nx [l])
          | some none => some (.s (.tuple ⟨[]⟩) (Tr.set D H l (some (.m ((k, v, nx) :: es)))) (nx + 1) [l])
        | _, _ => none
      | _ => none
  | _ => none
/-- The stamp of an entry. -/
def stamp (t : Nat) : Value := .complex .f64 t 1
def entryV (C : Cx) (P : Program) (H : Hp) (nx : Nat) (T : Nat) (x k : Value) : Option R :=
  match P.underlying T with
  | some (.map K E) => match keyOk P C K k with
    | false => none
    | true => match x with
      | .map (some l) => match Nat.blt l nx, H.get l with
        | true, some (.m es) => match findK C K k es with
          | none => none
          | some (some (v, t)) => match k with
            | .int _ _ => some (.s (.tuple ⟨[v, stamp t]⟩) H nx [l])
            | _ => none
          | some none => match P.info? E with
            | none => none
            | some i => match i.zero with
              | none => none
              | some z => match lit z with
                | false => none
                | true => some (.s (.tuple ⟨[z, stamp nx]⟩) (Tr.set D H l (some (.m ((k, z, nx) :: es)))) (nx + 1) [l])
        | _, _ => none
      | _ => none
  | _ => none
def entryStoreV (H : Hp) (nx : Nat) (x s v : Value) : Option R :=
  match x, s with
  | .map (some l), .complex .f64 t 1 => match Nat.blt l nx, H.get l with
    | true, some (.m es) => match hasS t es with
      | true => some (.s (.tuple ⟨[]⟩) (Tr.set D H l (some (.m (putS t v es)))) nx [l])
      | false => none
    | _, _ => none
  | _, _ => none
def nextV (H : Hp) (l : Nat) : Option R :=
  match H.get l with
  | some (.it none _ _) => some (.v (.tuple ⟨[.bool false]⟩))
  | some (.it (some m) _ _) => match H.get m with
    | some (.m []) => some (.v (.tuple ⟨[.bool false]⟩))
    | _ => none
  | _ => none
def builtinV (C : Cx) (P : Program) (H : Hp) (nx : Nat) (b : Builtin) (ts : List Nat) (args : List Value) : Option R :=
  match b with
  | .append => match ts, args with
    | [T, T'], [s, x] => appendV P H nx T T' s x
    | _, _ => none
  | .len => match ts, args with
    | T :: _, x :: _ => match P.underlying T, x with
      | some (.array n _), _ => some (.v (.int .i64 (.ofNat n)))
      | some (.slice _), .slice _ n _ => some (.v (.int .i64 (.ofNat n)))
      | some (.map _ _), .map none => some (.v (.int .i64 0))
      | some (.map _ _), .map (some l) => match H.get l with
        | some (.m es) => some (.v (.int .i64 (.ofNat es.length)))
        | _ => none
      | _, _ => none
    | _, _ => none
  | .cap => match ts, args with
    | T :: _, x :: _ => match P.underlying T, x with
      | some (.slice _), .slice none _ c => some (.v (.int .i64 (.ofNat c)))
      | some (.slice _), .slice (some ⟨_, _, none⟩) _ c => some (.v (.int .i64 (.ofNat c)))
      | _, _ => none
    | _, _ => none
  | .max => match args with
    | x :: l => match folds (max1 C) x l with
      | some v => some (.v v)
      | none => none
    | [] => none
  | .min => match args with
    | x :: l => match folds (min1 C) x l with
      | some v => some (.v v)
      | none => none
    | [] => none
  | _ => none
def mk (H : Hp) (nx : Nat) (x : Value) (o : AO) : Option R := some (.s x (Tr.set D H nx (some o)) (nx + 1) [])
def ptr (l o : Nat) : Value := .pointer (some ⟨l, o, none⟩)
def fieldAt (P : Program) (T f : Nat) : Option (Nat × Nat × Nat) :=
  match P.underlying T with
  | some (.struct fs) => match nth fs.toList f with
    | some fd => match szOf P fd.type with
      | some n => some (fd.offset, fd.type, n)
      | none => none
    | none => none
  | _ => none
def placesL (P : Program) (fs : List Field) : Option (List (Nat × Nat)) := fs.mapM (fun f => (P.info? f.type).map fun i => (f.offset, i.size))
def placeOf (P : Program) (T : Nat) : Option (Nat → Option (Nat × Nat)) :=
  match P.underlying T with
  | some (.struct fs) => match placesL P fs.toList with
    | some l => some (nth l)
    | none => none
  | some (.array _ E) => match szOf P E with
    | some n => some fun i => some (i * n, n)
    | none => none
  | _ => none
def opMove (ρ : Operand → Option Value) (x : Operand) : Option R :=
  match ρ x with
    | some v => some (.v v)
    | none => none
def opPick (ρ : Operand → Option Value) (c a b : Operand) : Option R :=
  match ρ c with
    | some (.bool true) => match ρ a with
      | some v => some (.v v)
      | none => none
    | some (.bool false) => match ρ b with
      | some v => some (.v v)
      | none => none
    | _ => none
def opAlloc (P : Program) (H : Hp) (nx : Nat) (T : Nat) : Option R :=
  match zeroL P T with
    | some cs => match litL cs with
      | true => mk H nx (ptr nx 0) (.c cs T)
      | false => none
    | none => none
def opBox (ρ : Operand → Option Value) (H : Hp) (nx : Nat) (T : Nat) (x : Operand) : Option R :=
  match ρ x with
    | some v => mk H nx (ptr nx 0) (.c (cellsL v) T)
    | none => none
def opBuild (P : Program) (ρ : Operand → Option Value) (T : Nat) (ps : Array (Nat × Operand)) : Option R :=
  match zeroL P T, placeOf P T, parts ρ ps.toList with
    | some z, some pl, some vs => match litL z with
      | false => none
      | true => match fillL pl z vs with
        | some cs => some (.v (.agg ⟨cs⟩))
        | none => none
    | _, _, _ => none
def opBuildSlice (P : Program) (ρ : Operand → Option Value) (H : Hp) (nx : Nat) (T n : Nat) (ps : Array (Nat × Operand)) : Option R :=
  match P.underlying T with
    | some (.slice E) => match zeroL P E, szOf P E, parts ρ ps.toList with
      | some z, some sz, some vs => match litL z && Nat.beq z.length sz && Nat.ble (n * sz) 100000 && Nat.ble 1 sz with
        | false => none
        | true => match fillL (fun i => some (i * sz, sz)) (repL n z) vs with
          | some cs => mk H nx (.slice (some ⟨nx, 0, none⟩) n n) (.c cs E)
          | none => none
      | _, _, _ => none
    | _ => none
def opLoad (P : Program) (ρ : Operand → Option Value) (H : Hp) (T : Nat) (x : Operand) : Option R :=
  match ρ x with
    | some (.pointer (some ⟨l, i, none⟩)) => match H.get l with
      | some (.c cs _) => match loadL P T cs i with
        | some v => some (.v v)
        | none => none
      | some (.r cs _ _) => match loadL P T cs i with
        | some v => some (.v v)
        | none => none
      | _ => none
    | _ => none
def opStore (P : Program) (ρ : Operand → Option Value) (H : Hp) (nx : Nat) (T : Nat) (x y : Operand) : Option R :=
  match ρ x, ρ y with
    | some (.pointer (some ⟨l, i, none⟩)), some v => match szOf P T with
      | none => none
      | some n => match Nat.beq (cellsL v).length n && oneL (cellsL v) && Nat.blt l nx with
        | false => none
        | true => match H.get l with
          | some (.c cs T') => match putX i (cellsL v) cs with
            | some cs' => some (.s (.tuple ⟨[]⟩) (Tr.set D H l (some (.c cs' T'))) nx [l])
            | none => none
          | some (.r cs T' z) => match putX i (cellsL v) cs with
            | some cs' => some (.s (.tuple ⟨[]⟩) (Tr.set D H l (some (.r cs' T' z))) nx [l])
            | none => none
          | _ => none
    | _, _ => none
def opNilCheck (ρ : Operand → Option Value) (x : Operand) : Option R :=
  match ρ x with
    | some (.pointer (some a)) => some (.v (.pointer (some a)))
    | some (.func (.func f) a b) => some (.v (.func (.func f) a b))
    | _ => none
def opBinOp (C : Cx) (P : Program) (ρ : Operand → Option Value) (op : BinOp) (T : Nat) (x y : Operand) : Option R :=
  match ρ x, ρ y with
    | some a, some b => match binV C P op T a b with
      | some v => some (.v v)
      | none => none
    | _, _ => none
def opUnOp (ρ : Operand → Option Value) (op : UnOp) (x : Operand) : Option R :=
  match ρ x with
    | some a => match unV op a with
      | some v => some (.v v)
      | none => none
    | none => none
def opConvert (C : Cx) (P : Program) (ρ : Operand → Option Value) (s d : Nat) (x : Operand) : Option R :=
  match ρ x with
    | some a => match convV C P s d a with
      | some v => some (.v v)
      | none => none
    | none => none
def opMakeFunc (ρ : Operand → Option Value) (fn : Fn) (fst cap : Array Operand) : Option R :=
  match fn, fst.toList with
    | .func f, [] => match vals ρ cap.toList with
      | some l => some (.v (.func (.func f) ⟨[]⟩ ⟨l⟩))
      | none => none
    | _, _ => none
def opMakeMap (H : Hp) (nx : Nat) : Option R :=
  mk H nx (.map (some nx)) (.m [])
def opMakeSlice (P : Program) (ρ : Operand → Option Value) (H : Hp) (nx : Nat) (T : Nat) (a b : Operand) : Option R :=
  match P.underlying T, ρ a, ρ b with
    | some (.slice E), some va, some vb => match litN va, litN vb, P.info? E with
      | some n, some c, some i => match i.zero with
        | some z => match lit1 z && Nat.beq i.size 1 && Nat.ble n c && Nat.ble c 100000 && Nat.ble i.bytes 1000 with
          | true => mk H nx (.slice (some ⟨nx, 0, none⟩) n c) (.c (repL c [z]) E)
          | false => none
        | none => none
      | _, _, _ => none
    | _, _, _ => none
def opSlice (P : Program) (ρ : Operand → Option Value) (H : Hp) (T : Nat) (x : Operand) (lo hi mx : Option Operand) : Option R :=
  match ρ x with
    | some v => match sliceV P H T v (lo.map ρ) (hi.map ρ) (mx.map ρ) with
      | some r => some (.v r)
      | none => none
    | none => none
def opFieldAddr (P : Program) (ρ : Operand → Option Value) (T : Nat) (x : Operand) (f : Nat) : Option R :=
  match ρ x, fieldAt P T f with
    | some (.pointer (some ⟨l, i, none⟩)), some (off, _, n) => match Nat.beq n 0 with
      | false => some (.v (ptr l (i + off)))
      | true => none
    | _, _ => none
def opField (P : Program) (ρ : Operand → Option Value) (T : Nat) (x : Operand) (f : Nat) : Option R :=
  match ρ x, fieldAt P T f with
    | some (.agg ⟨cs⟩), some (off, ty, _) => match loadL P ty cs off with
      | some v => some (.v v)
      | none => none
    | _, _ => none
def opIndexAddr (P : Program) (ρ : Operand → Option Value) (T : Nat) (x ix : Operand) : Option R :=
  match P.underlying T, ρ x, ρ ix with
    | some (.slice E), some (.slice (some ⟨l, i, _⟩) n _), some k => match litN k, szOf P E with
      | some j, some sz => match Nat.blt j n with
        | true => some (.v (ptr l (i + j * sz)))
        | false => none
      | _, _ => none
    | some (.array n E), some (.pointer (some ⟨l, i, none⟩)), some k => match litN k, szOf P E with
      | some j, some sz => match Nat.blt j n with
        | true => some (.v (ptr l (i + j * sz)))
        | false => none
      | _, _ => none
    | _, _, _ => none
def opIndex (P : Program) (ρ : Operand → Option Value) (T : Nat) (x ix : Operand) : Option R :=
  match P.underlying T, ρ x, ρ ix with
    | some (.array n E), some (.agg ⟨cs⟩), some k => match litN k, szOf P E with
      | some j, some sz => match Nat.blt j n with
        | true => match loadL P E cs (j * sz) with
          | some v => some (.v v)
          | none => none
        | false => none
      | _, _ => none
    | some .string, some (.string b), some k => match litN k with
      | some j => match nth b.data.toList j with
        | some c => some (.v (.int .u8 (.ofNat c.toNat)))
        | none => none
      | none => none
    | _, _, _ => none
def opLookup (C : Cx) (P : Program) (ρ : Operand → Option Value) (H : Hp) (T : Nat) (x k : Operand) (ok : Bool) : Option R :=
  match ρ x, ρ k with
    | some m, some kv => match lookupV C P H T m kv ok with
      | some v => some (.v v)
      | none => none
    | _, _ => none
def opMapUpdate (C : Cx) (P : Program) (ρ : Operand → Option Value) (H : Hp) (nx : Nat) (T : Nat) (x k v : Operand) : Option R :=
  match ρ x, ρ k, ρ v with
    | some m, some kv, some vv => updateV C P H nx T m kv vv
    | _, _, _ => none
def opMapEntry (C : Cx) (P : Program) (ρ : Operand → Option Value) (H : Hp) (nx : Nat) (T : Nat) (x k : Operand) : Option R :=
  match ρ x, ρ k with
    | some m, some kv => entryV C P H nx T m kv
    | _, _ => none
def opEntryStore (ρ : Operand → Option Value) (H : Hp) (nx : Nat) (x t v : Operand) : Option R :=
  match ρ x, ρ t, ρ v with
    | some m, some tv, some vv => entryStoreV H nx m tv vv
    | _, _, _ => none
def stampsL : List (Value × Value × Nat) → List Nat
  | [] => []
  | (_, _, t) :: es => t :: stampsL es
def opRange (P : Program) (ρ : Operand → Option Value) (H : Hp) (nx : Nat) (T : Nat) (x : Operand) : Option R :=
  match P.underlying T, ρ x with
    | some (.map _ _), some (.map none) => mk H nx (ptr nx 0) (.it none [] [])
    | some (.map _ _), some (.map (some l)) => match H.get l with
      | some (.m es) => mk H nx (ptr nx 0) (.it (some l) (stampsL es) [])
      | _ => none
    | _, _ => none
def opNext (ρ : Operand → Option Value) (H : Hp) (x : Operand) : Option R :=
  match ρ x with
    | some (.pointer (some ⟨l, 0, none⟩)) => nextV H l
    | _ => none
def opExtract (ρ : Operand → Option Value) (x : Operand) (i : Nat) : Option R :=
  match ρ x with
    | some (.tuple ⟨l⟩) => match nth l i with
      | some v => some (.v v)
      | none => none
    | _ => none
def opCall (C : Cx) (P : Program) (ρ : Operand → Option Value) (H : Hp) (nx : Nat) (c : Call) : Option R :=
  match c.callee with
    | .builtin b => match vals ρ c.args.toList with
      | some args => builtinV C P H nx b c.argTypes.toList args
      | none => none
    | .value f => match ρ f, vals ρ c.args.toList with
      | some (.func (.func g) ⟨[]⟩ ⟨cap⟩), some args => some (.call g (args ++ cap))
      | _, _ => none
    | .invoke _ _ => none
def stepOp (C : Cx) (P : Program) (ρ : Operand → Option Value) (H : Hp) (nx : Nat) (o : Oper) : Option R :=
  match o.op with
  | .move x => opMove ρ x
  | .assign x => opMove ρ x
  | .pick c a b => opPick ρ c a b
  | .alloc T => opAlloc P H nx T
  | .box T x => opBox ρ H nx T x
  | .build T ps => opBuild P ρ T ps
  | .buildSlice T n ps => opBuildSlice P ρ H nx T n ps
  | .load T x => opLoad P ρ H T x
  | .store T x y => opStore P ρ H nx T x y
  | .nilCheck x => opNilCheck ρ x
  | .binOp op T x y _ => opBinOp C P ρ op T x y
  | .unOp op _ x => opUnOp ρ op x
  | .convert s d x => opConvert C P ρ s d x
  | .makeFunc fn fst cap => opMakeFunc ρ fn fst cap
  | .makeMap _ none => opMakeMap H nx
  | .makeSlice T a b => opMakeSlice P ρ H nx T a b
  | .slice T x lo hi mx => opSlice P ρ H T x lo hi mx
  | .fieldAddr T x f => opFieldAddr P ρ T x f
  | .field T x f => opField P ρ T x f
  | .indexAddr T x ix => opIndexAddr P ρ T x ix
  | .index T x ix => opIndex P ρ T x ix
  | .lookup T x k ok => opLookup C P ρ H T x k ok
  | .mapUpdate T x k v => opMapUpdate C P ρ H nx T x k v
  | .insert T x k v => opMapUpdate C P ρ H nx T x k v
  | .mapEntry T x k => opMapEntry C P ρ H nx T x k
  | .entryStore _ x t v => opEntryStore ρ H nx x t v
  | .range T x => opRange P ρ H nx T x
  | .next x false => opNext ρ H x
  | .extract x i => opExtract ρ x i
  | .call c => opCall C P ρ H nx c
  | _ => none
def evOp (cl : Cl) (C : Cx) (P : Program) (ρ : Operand → Option Value) (H : Hp) (nx : Nat) (o : Oper) : Option Res :=
  match stepOp C P ρ H nx o with
  | some (.v x) => some (x, H, nx, [])
  | some (.s x H' nx' wr) => some (x, H', nx', wr)
  | some (.call f args) => cl f args H nx
  | none => none
structure St where
  tm : Tr Value
  H : Hp
  nx : Nat
inductive Ec where
  | normal
  | exit (id : Nat)
  | ret
def putT (nt : Nat) (tm : Tr Value) (d : Option Nat) (v : Value) : Option (Tr Value) :=
  match d with
  | none => some tm
  | some d => match Nat.blt d nt with
    | true => some (Tr.set D tm d (some v))
    | false => none
/-- Is an operation wanted? -/
def wantB (ops : List Oper) (tm : Tr Value) (g : Option (Nat × Bool)) : Option Bool :=
  match g with
  | none => some true
  | some (j, want) => match nth ops j with
    | none => none
    | some o => match o.dst with
      | none => none
      | some t => match tm.get t with
        | some (.bool b) => some (b == want)
        | some (.tuple ⟨[]⟩) => some false
        | _ => none
def undefV : Value := .tuple ⟨[]⟩
def listStep (cl : Cl) (C : Cx) (P : Program) (nt : Nat) (ops : List Oper) (o : Oper) (st : St) : Option (St × List Nat) :=
  match wantB ops st.tm o.guard with
  | none => none
  | some false => match putT nt st.tm o.dst undefV with
    | none => none
    | some tm => some (⟨tm, st.H, st.nx⟩, [])
  | some true => match evOp cl C P (ev st.tm) st.H st.nx o with
    | none => none
    | some (v, H, nx, wr) => match putT nt st.tm o.dst v with
      | none => none
      | some tm => some (⟨tm, H, nx⟩, wr)
def evList (cl : Cl) (C : Cx) (P : Program) (nt : Nat) (ops l : List Oper) : St → Option (St × List Nat) :=
  listRec (fun st => some (st, [])) (fun o _ ih st => match listStep cl C P nt ops o st with
    | none => none
    | some (st', wr) => match ih st' with
      | none => none
      | some (st'', wr') => some (st'', wr ++ wr')) l
end
end Go.Proofs.YtigjjddblijpbaaGreatDoor.Ex
namespace Go.Proofs.YtigjjddblijpbaaGreatDoor.Ex
open Go
noncomputable section

/-- An operation of a region that draws its order: its number; those it waits for (bits); the names that it wrote; its new names; the memory that it was given. -/
structure Rec where
  j : Nat
  anc : Nat
  wr : List Nat
  n0 : Nat
  n1 : Nat
  H : Hp
def bit (m i : Nat) : Bool :=
  match (m >>> i) % 2 with
  | 0 => false
  | _ + 1 => true
def maskOf (ms : List Nat) : List Edge → Nat → Option Nat
  | [], m => some m
  | e :: es, m => match Region.binds .any e with
    | false => maskOf ms es m
    | true => match nth ms e.on with
      | none => none
      | some r => maskOf ms es (m ||| (r ||| (1 <<< e.on)))
/-- For each operation those that it waits for. -/
def masks : List Oper → List Nat → Option (List Nat)
  | [], ms => some ms
  | o :: os, ms => match maskOf ms o.after.toList 0 with
    | none => none
    | some m => masks os (ms ++ [m])
def isD (d : Option Nat) (t : Nat) : Bool :=
  match d with
  | none => false
  | some d => Nat.beq d t
/-- Each operation that leaves something in a slot: it itself, one that it waits for, or one that waits for it? -/
def dstOk (anc j t : Nat) : List Oper → List Nat → Nat → Bool
  | o :: os, m :: ms, k => match isD o.dst t with
    | false => dstOk anc j t os ms (k + 1)
    | true => match Nat.beq k j || bit anc k || bit m j with
      | true => dstOk anc j t os ms (k + 1)
      | false => false
  | [], _, _ => true
  | _ :: _, [], _ => false
def looksB (anc j : Nat) (ops : List Oper) (ms : List Nat) : List Nat → Bool
  | [] => true
  | t :: ts => match dstOk anc j t ops ms 0 with
    | true => looksB anc j ops ms ts
    | false => false
def tmpsL : List Operand → List Nat
  | [] => []
  | .tmp t :: l => t :: tmpsL l
  | _ :: l => tmpsL l
def guardT (ops : List Oper) (g : Option (Nat × Bool)) : List Nat :=
  match g with
  | none => []
  | some (j, _) => match nth ops j with
    | none => []
    | some o => match o.dst with
      | none => []
      | some t => [t]
def eraseR (H : Hp) (n : Nat) : Nat → Hp
  | 0 => H
  | k + 1 => eraseR (Tr.set D H n none) (n + 1) k
/-- The memory without what others touch for which an operation does not wait; does any? (Those are listed that touch something.) -/
def banH (anc : Nat) : List Rec → Hp → Bool → Hp × Bool
  | [], H, b => (H, b)
  | r :: rs, H, b => match bit anc r.j with
    | true => banH anc rs H b
    | false => banH anc rs (eraseR (dropL H r.wr) r.n0 (r.n1 - r.n0)) true
def noneL (H : Hp) : List Nat → Bool
  | [] => true
  | l :: ls => match H.get l with
    | none => noneL H ls
    | some _ => false
/-- Does none of those for which an operation does not wait look at what it writes? -/
def apartR (anc : Nat) (wr : List Nat) : List Rec → Bool
  | [] => true
  | r :: rs => match bit anc r.j with
    | true => apartR anc wr rs
    | false => match noneL r.H wr with
      | true => apartR anc wr rs
      | false => false
def apartB (anc : Nat) (wr : List Nat) (recs : List Rec) : Bool :=
  match wr with
  | [] => true
  | wr => apartR anc wr recs
def copyL (H H' : Hp) : List Nat → Hp
  | [] => H
  | l :: ls => copyL (Tr.set D H l (H'.get l)) H' ls
def copyR (H H' : Hp) (n : Nat) : Nat → Hp
  | 0 => H
  | k + 1 => copyR (Tr.set D H n (H'.get n)) H' (n + 1) k
def merge (H H' : Hp) (b : Bool) (wr : List Nat) (n0 n1 : Nat) : Hp :=
  match b with
  | false => H'
  | true => copyR (copyL H H' wr) H' n0 (n1 - n0)
def isNil {α : Type} : List α → Bool
  | [] => true
  | _ => false
/-- What an operation must not be given: what those write (as a walk ahead found) that do not wait for it, and for which it does not wait. -/
def avoid (anc j : Nat) : List Rec → List Nat
  | [] => []
  | r :: rs => match Nat.beq j r.j || bit anc r.j || bit r.anc j with
    | true => avoid anc j rs
    | false => r.wr ++ avoid anc j rs
/-- The operations so far: all of them; those that touched something. -/
structure Recs where
  all : List Rec
  tch : List Rec
def Recs.add (rs : Recs) (r : Rec) : Recs :=
  match r.wr, Nat.beq r.n0 r.n1 with
  | [], true => ⟨r :: rs.all, rs.tch⟩
  | _, _ => ⟨r :: rs.all, r :: rs.tch⟩
/-- One operation of a region whose order is drawn. pre: what a walk ahead found; chk: is it looked at whether those for which an operation does not wait look at what it writes? -/
def drawStep (cl : Cl) (C : Cx) (P : Program) (nt : Nat) (ops : List Oper) (ms : List Nat) (pre : List Rec) (chk : Bool) (o : Oper) (j : Nat) (recs : Recs) (st : St) : Option (St × List Nat × Rec) :=
  match nth ms j with
  | none => none
  | some anc => match looksB anc j ops ms (guardT ops o.guard ++ tmpsL o.op.operands.toList) with
    | false => none
    | true => match wantB ops st.tm o.guard with
      | none => none
      | some false => match putT nt st.tm o.dst undefV with
        | none => none
        | some tm => some (⟨tm, st.H, st.nx⟩, [], ⟨j, anc, [], st.nx, st.nx, .e⟩)
      | some true => match banH anc recs.tch (dropL st.H (avoid anc j pre)) (!(isNil pre)) with
        | (Hj, b) => match evOp cl C P (ev st.tm) Hj st.nx o with
          | none => none
          | some (v, H', nx', wr) => match !chk || (apartB anc wr recs.all && ltAll st.nx wr) with
            | false => none
            | true => match putT nt st.tm o.dst v with
              | none => none
              | some tm => some (⟨tm, merge st.H H' b wr st.nx nx', nx'⟩, wr, ⟨j, anc, wr, st.nx, nx', Hj⟩)
/-- A region whose order is drawn. -/
def evDraw (cl : Cl) (C : Cx) (P : Program) (nt : Nat) (ops : List Oper) (ms : List Nat) (pre : List Rec) (chk : Bool) (l : List Oper) : Nat → Recs → St → Option (St × List Nat × Recs) :=
  listRec (fun _ recs st => some (st, [], recs)) (fun o _ ih j recs st => match drawStep cl C P nt ops ms pre chk o j recs st with
    | none => none
    | some (st', wr, r) => match ih (j + 1) (recs.add r) st' with
      | none => none
      | some (st'', wr', rs) => some (st'', wr ++ wr', rs)) l
def evDraw2 (cl : Cl) (C : Cx) (P : Program) (nt : Nat) (ops : List Oper) (st : St) : Option (St × List Nat × Recs) :=
  match masks ops [] with
  | none => none
  | some ms => match evDraw cl C P nt ops ms [] true ops 0 ⟨[], []⟩ st with
    | some r => some r
    | none => match evDraw cl C P nt ops ms [] false ops 0 ⟨[], []⟩ st with
      | none => none
      | some (_, _, recs) => evDraw cl C P nt ops ms recs.all true ops 0 ⟨[], []⟩ st
def dstL : List Oper → List Nat
  | [] => []
  | o :: os => match o.dst with
    | none => dstL os
    | some d => d :: dstL os
def memB (x : Nat) : List Nat → Bool
  | [] => false
  | y :: l => match Nat.beq x y with
    | true => true
    | false => memB x l
def nodB : List Nat → Bool
  | [] => true
  | x :: l => match memB x l with
    | true => false
    | false => nodB l
abbrev Out := Option (Ec × St × List Nat)
def iter (f : St → Out) (n : Nat) : St → Out :=
  natRec (fun _ => none) (fun _ ih st => match f st with
    | some (.normal, st', wr) => match ih st' with
      | some (x, st'', wr') => some (x, st'', wr ++ wr')
      | none => none
    | r => r) n
def cSkip (st : St) : Out := some (.normal, st, [])
def cRegion (cl : Cl) (C : Cx) (P : Program) (nt : Nat) (_ : Nat) (ops : Array Oper) (draw : Bool) (st : St) : Out :=
  match draw with
  | false => match evList cl C P nt ops.toList ops.toList st with
    | some (st', wr) => some (.normal, st', wr)
    | none => none
  | true => match nodB (dstL ops.toList) with
    | false => none
    | true => match evDraw2 cl C P nt ops.toList st with
      | some (st', wr, _) => some (.normal, st', wr)
      | none => none
def cSeq (f g : St → Out) (st : St) : Out :=
  match f st with
  | some (.normal, st', wr) => match g st' with
    | some (x, st'', wr') => some (x, st'', wr ++ wr')
    | none => none
  | r => r
def cCond (c : Operand) (f g : St → Out) (st : St) : Out :=
  match ev st.tm c with
  | some (.bool true) => f st
  | some (.bool false) => g st
  | _ => none
def cBlock (id : Nat) (f : St → Out) (st : St) : Out :=
  match f st with
  | some (.exit i, st', wr) => match Nat.beq i id with
    | true => some (.normal, st', wr)
    | false => some (.exit i, st', wr)
  | r => r
def cExit (id : Nat) (st : St) : Out := some (.exit id, st, [])
def cRet (st : St) : Out := some (.ret, st, [])
def cNone (_ : St) : Out := none
def evX (lp : Code → (St → Out) → St → Out) (cl : Cl) (C : Cx) (P : Program) (nt : Nat) (c : Code) : St → Out :=
  codeRec cSkip (cRegion cl C P nt) cSeq cCond cBlock lp cExit cRet cNone c
def plainL (fl : Nat) (_ : Code) (f : St → Out) : St → Out := iter f fl
def evC (cl : Cl) (C : Cx) (P : Program) (nt fl : Nat) (c : Code) : St → Out := evX (plainL fl) cl C P nt c
/-- The parts of a loop over a map: the iterator's slot; where the step, its truth and the entry go; whither it leaves; the body. -/
structure LP where
  i : Nat
  d1 : Nat
  tb : Nat
  d6 : Nat
  id : Nat
  id1 : Nat
  ops : Array Oper
  tl : List Oper
  rest : Code
def isNext (o : Oper) : Option (Nat × Nat) :=
  match o.op, o.guard, o.dst with
  | .next (.tmp i) false, none, some d => some (i, d)
  | _, _, _ => none
def isExt (o : Oper) : Option (Nat × Nat) :=
  match o.op, o.guard, o.dst with
  | .extract (.tmp t) 0, none, some d => some (t, d)
  | _, _, _ => none
def isEntry (o : Oper) : Option (Nat × Nat) :=
  match o.op, o.guard, o.dst with
  | .entry (.tmp i), none, some d => some (i, d)
  | _, _, _ => none
def parts3 (o1 o2 o3 : Oper) (tb id id1 : Nat) (ops : Array Oper) (tl : List Oper) (rest : Code) : Option LP :=
  match isNext o1, isExt o2, isEntry o3 with
  | some (i, d1), some (t, tb'), some (i', d6) => match (Nat.beq d1 t && Nat.beq tb tb') && (Nat.beq i i' && !(Nat.beq i d1) && !(Nat.beq i tb)) with
    | true => some ⟨i, d1, tb, d6, id, id1, ops, tl, rest⟩
    | false => none
  | _, _, _ => none
def parts2 (o1 o2 : Oper) (tb id id1 : Nat) (ops : Array Oper) (rest : Code) : Option LP :=
  match ops.toList with
  | o3 :: tl => parts3 o1 o2 o3 tb id id1 ops tl rest
  | [] => none
def loopParts (b : Code) : Option LP :=
  match b with
  | .seq (.region _ ⟨[o1, o2]⟩ false) (.seq (.cond (.tmp tb) .skip (.exit id)) (.block id1 (.seq (.region _ ops false) rest))) => parts2 o1 o2 tb id id1 ops rest
  | _ => none
def findT (t : Nat) : List (Value × Value × Nat) → Option (Value × Value)
  | [] => none
  | (k, v, t') :: es => match Nat.beq t t' with
    | true => some (k, v)
    | false => findT t es
def subL (l l' : List Nat) : Bool :=
  match l with
  | [] => true
  | x :: l => match memB x l' with
    | true => subL l l'
    | false => false
/-- An iterator and its map. -/
structure IA where
  l : Nat
  m : Nat
  ts : List Nat
  seen : List Nat
  es : List (Value × Value × Nat)
def iterAt (st : St) (i : Nat) : Option IA :=
  match st.tm.get i with
  | some (.pointer (some ⟨l, 0, none⟩)) => match st.H.get l with
    | some (.it (some m) ts seen) => match st.H.get m with
      | some (.m es) => match Nat.blt l st.nx && (subL (stampsL es) ts && subL seen (stampsL es)) with
        | true => some ⟨l, m, ts, seen, es⟩
        | false => none
      | _ => none
    | _ => none
  | _ => none
def put2 (nt : Nat) (tm : Tr Value) (d1 : Nat) (v1 : Value) (d2 : Nat) (v2 : Value) : Option (Tr Value) :=
  match putT nt tm (some d1) v1 with
  | none => none
  | some tm => putT nt tm (some d2) v2
/-- A round in which an entry is handed out. -/
def roundM (cl : Cl) (C : Cx) (P : Program) (nt fl : Nat) (p : LP) (a : IA) (t : Nat) (st : St) : Option (St × List Nat) :=
  match findT t a.es with
  | none => none
  | some (k, v) => match put2 nt st.tm p.d1 (.tuple ⟨[.bool true, k, v]⟩) p.tb (.bool true) with
    | none => none
    | some tm => match putT nt tm (some p.d6) (.tuple ⟨[k, v]⟩) with
      | none => none
      | some tm => match evList cl C P nt p.ops.toList p.tl ⟨tm, Tr.set D st.H a.l (some (.it (some a.m) (stampsL a.es) (a.seen ++ [t]))), st.nx⟩ with
        | none => none
        | some (st2, w2) => match evC cl C P nt fl p.rest st2 with
          | some (.normal, st3, w3) => some (st3, [a.l] ++ (w2 ++ w3))
          | some (.exit j, st3, w3) => match Nat.beq j p.id1 with
            | true => some (st3, [a.l] ++ (w2 ++ w3))
            | false => none
          | _ => none
def leftL (seen : List Nat) : List Nat → List Nat
  | [] => []
  | t :: ts => match memB t seen with
    | true => leftL seen ts
    | false => t :: leftL seen ts
/-- An outcome: the first new name behind the first round; the state; what is written. -/
abbrev OutM := Nat × St × List Nat
def addW (mid : Nat) (w : List Nat) : List OutM → List OutM
  | [] => []
  | (_, st, w') :: l => (mid, st, w ++ w') :: addW mid w l
def eachM (f : Nat → Option (List OutM)) : List Nat → Option (List OutM)
  | [] => some []
  | t :: ts => match f t with
    | none => none
    | some l => match eachM f ts with
      | none => none
      | some l' => some (l ++ l')
/-- All outcomes of a loop over a map, whatever the order. -/
def exploreM (cl : Cl) (C : Cx) (P : Program) (nt fl : Nat) (p : LP) (n : Nat) : St → Option (List OutM) :=
  natRec (fun _ => none) (fun _ ih st => match iterAt st p.i with
    | none => none
    | some a => match leftL a.seen (stampsL a.es) with
      | [] => match put2 nt st.tm p.d1 (.tuple ⟨[.bool false]⟩) p.tb (.bool false) with
        | none => none
        | some tm => some [(st.nx, ⟨tm, st.H, st.nx⟩, [])]
      | us => eachM (fun t => match roundM cl C P nt fl p a t st with
        | none => none
        | some (st1, w1) => match ih st1 with
          | none => none
          | some l => some (addW st1.nx w1 l)) us) n
def pi3 (n0 a b l : Nat) : Nat :=
  match Nat.blt l n0 with
  | true => l
  | false => match Nat.blt l (n0 + a) with
    | true => l + b
    | false => match Nat.blt l (n0 + a + b) with
      | true => l - a
      | false => l
def eqBo : Bool → Bool → Bool
  | true, true => true
  | false, false => true
  | _, _ => false
/-- Is a value another, but for names? -/
def eqR1 (f : Nat → Nat) : Value → Value → Bool
  | .bool a, .bool b => eqBo a b
  | .int k a, .int k' b => eqK k k' && iB a b
  | .float .f64 a, .float .f64 b => Nat.beq a b
  | .complex .f32 j m, .complex .f32 j' m' => Nat.beq j j' && Nat.beq m m'
  | .complex .f64 j 0, .complex .f64 j' 0 => Nat.beq j j'
  | .pointer none, .pointer none => true
  | .pointer (some ⟨l, o, none⟩), .pointer (some ⟨l', o', none⟩) => Nat.beq (f l) l' && Nat.beq o o'
  | .slice none n c, .slice none n' c' => Nat.beq n n' && Nat.beq c c'
  | .slice (some ⟨l, o, none⟩) n c, .slice (some ⟨l', o', none⟩) n' c' => (Nat.beq (f l) l' && Nat.beq o o') && (Nat.beq n n' && Nat.beq c c')
  | .slice (some ⟨l, o, some _⟩) n _, .slice (some ⟨l', o', some _⟩) n' _ => (Nat.beq (f l) l' && Nat.beq o o') && Nat.beq n n'
  | .map none, .map none => true
  | .map (some l), .map (some l') => Nat.beq (f l) l'
  | .nilFunc, .nilFunc => true
  | _, _ => false
def eqRL (f : Nat → Nat) : List Value → List Value → Bool
  | [], [] => true
  | a :: l, b :: l' => match eqR1 f a b with
    | true => eqRL f l l'
    | false => false
  | _, _ => false
def eqR (f : Nat → Nat) : Value → Value → Bool
  | .agg ⟨l⟩, .agg ⟨l'⟩ => eqRL f l l'
  | .tuple ⟨l⟩, .tuple ⟨l'⟩ => eqRL f l l'
  | a, b => eqR1 f a b
def takeE (f : Nat → Nat) (k v : Value) (t : Nat) : List (Value × Value × Nat) → Option (List (Value × Value × Nat))
  | [] => none
  | (k', v', t') :: es => match Nat.beq (f t) t' && (eqR f k k' && eqR f v v') with
    | true => some es
    | false => match takeE f k v t es with
      | none => none
      | some r => some ((k', v', t') :: r)
def eqM (f : Nat → Nat) : List (Value × Value × Nat) → List (Value × Value × Nat) → Bool
  | [], es' => isNil es'
  | (k, v, t) :: es, es' => match takeE f k v t es' with
    | none => false
    | some r => eqM f es r
def eqAO (f : Nat → Nat) : AO → AO → Bool
  | .c l T, .c l' T' => eqRL f l l' && Nat.beq T T'
  | .r l T z, .r l' T' z' => eqRL f l l' && (Nat.beq T T' && Nat.beq z z')
  | .m es, .m es' => eqM f es es'
  | _, _ => false
def agree (f : Nat → Nat) (H' : Hp) (l : Nat) (o : AO) : Bool :=
  match H'.get (f l) with
  | some o' => eqAO f o o'
  | none => false
def keep1 (f : Nat → Nat) (H' : Hp) (H : Hp) (l : Nat) : Hp :=
  match H.get l with
  | none => H
  | some o => match agree f H' l o with
    | true => H
    | false => Tr.set D H l none
def keepLs (f : Nat → Nat) (H' : Hp) : List Nat → Hp → Hp
  | [], H => H
  | l :: ls, H => keepLs f H' ls (keep1 f H' H l)
def keepRg (f : Nat → Nat) (H' : Hp) (n : Nat) : Nat → Hp → Hp
  | 0, H => H
  | k + 1, H => keepRg f H' (n + 1) k (keep1 f H' H n)
def keepTm (f : Nat → Nat) (tm' : Tr Value) : Nat → Tr Value → Tr Value → Tr Value
  | 0, _, r => r
  | t + 1, tm, r => match tm.get t, tm'.get t with
    | some v, some u => match eqR f v u with
      | true => keepTm f tm' t tm (Tr.set D r t (some v))
      | false => keepTm f tm' t tm r
    | _, _ => keepTm f tm' t tm r
def oldW (n : Nat) : List Nat → List Nat
  | [] => []
  | l :: ls => match Nat.blt l n with
    | true => l :: oldW n ls
    | false => oldW n ls
/-- Two outcomes as one: what is alike but for new names. -/
def merge2 (nt n0 : Nat) (x y : OutM) : Option (St × List Nat) :=
  match x, y with
  | (m, s, w), (m', s', w') => match (Nat.beq s.nx (n0 + (m - n0) + (m' - n0)) && Nat.beq s'.nx s.nx) && (subL (oldW n0 w) w' && subL (oldW n0 w') w) with
    | false => none
    | true => some (⟨keepTm (pi3 n0 (m - n0) (m' - n0)) s'.tm nt s.tm .e, keepLs (pi3 n0 (m - n0) (m' - n0)) s'.H w (keepRg (pi3 n0 (m - n0) (m' - n0)) s'.H n0 (s.nx - n0) s.H), s.nx⟩, w)
/-- A loop; over a map: in whatever order. -/
def mapL (cl : Cl) (C : Cx) (P : Program) (nt fl : Nat) (b : Code) (f : St → Out) (st : St) : Out :=
  match loopParts b with
  | none => iter f fl st
  | some p => match exploreM cl C P nt fl p 4 st with
    | some [(_, s, w)] => some (.exit p.id, s, w)
    | some [x, y] => match merge2 nt st.nx x y with
      | some (s, w) => some (.exit p.id, s, w)
      | none => none
    | _ => none
def evC1 (cl : Cl) (C : Cx) (P : Program) (nt fl : Nat) (c : Code) : St → Out := evX (mapL cl C P nt fl) cl C P nt c

def initT : List Value → Nat → Tr Value → Tr Value
  | [], _, tm => tm
  | v :: vs, i, tm => initT vs (i + 1) (Tr.set D tm i (some v))
def resL (P : Program) (tm : Tr Value) (H : Hp) : List ResultVar → Option (List Value)
  | [] => some []
  | .tmp t :: rs => match tm.get t with
    | none => none
    | some v => match resL P tm H rs with
      | none => none
      | some vs => some (v :: vs)
  | .cell a T :: rs => match tm.get a with
    | some (.pointer (some ⟨l, i, none⟩)) => match H.get l with
      | some (.c cs _) => match loadL P T cs i with
        | none => none
        | some v => match resL P tm H rs with
          | none => none
          | some vs => some (v :: vs)
      | _ => none
    | _ => none
def oneV : List Value → Value
  | [v] => v
  | l => .tuple ⟨l⟩
def oldC (k : FloatKind) (m : Nat) : Bool :=
  match k, m with
  | .f64, 1 => false
  | _, _ => true
/-- Does a value name older blocks alone? -/
def old1 (nx : Nat) : Value → Bool
  | .bool _ | .int _ _ | .float _ _ | .string _ | .pointer none | .slice none _ _ | .map none | .nilFunc | .nilIface => true
  | .complex k _ m => oldC k m
  | .pointer (some a) => Nat.blt a.block nx
  | .slice (some a) _ _ => Nat.blt a.block nx
  | .map (some l) => Nat.blt l nx
  | _ => false
def oldL (nx : Nat) : List Value → Bool
  | [] => true
  | v :: l => match old1 nx v with
    | true => oldL nx l
    | false => false
def old2 (nx : Nat) : Value → Bool
  | .agg ⟨l⟩ => oldL nx l
  | v => old1 nx v
def oldT (nx : Nat) : List Value → Bool
  | [] => true
  | v :: l => match old2 nx v with
    | true => oldT nx l
    | false => false
def oldV (nx : Nat) : Value → Bool
  | .tuple ⟨l⟩ => oldT nx l
  | v => old2 nx v
/-- What is written but for the new names. -/
def keepOld (nx n' : Nat) : List Nat → List Nat
  | [] => []
  | l :: ls => match Nat.ble nx l && Nat.blt l n' with
    | false => l :: keepOld nx n' ls
    | true => keepOld nx n' ls
def back (nx : Nat) (H : Hp) (v : Value) (H' : Hp) (nx' : Nat) (wr : List Nat) : Res :=
  match keepOld nx nx' wr with
  | [] => match oldV nx v with
    | true => (v, H, nx, [])
    | false => (v, H', nx', [])
  | w => (v, H', nx', w)
def callF (cl : Cl) (C : Cx) (P : Program) (fl : Nat) (f : Nat) (args : List Value) (H : Hp) (nx : Nat) : Option Res :=
  match nth P.funcs.toList f with
  | none => none
  | some fn => match fn.body with
    | none => none
    | some c => match Nat.ble args.length fn.ntmps with
      | false => none
      | true => match evC1 cl C P fn.ntmps fl c ⟨initT args 0 .e, H, nx⟩ with
        | none => none
        | some (.exit _, _, _) => none
        | some (_, st, wr) => match resL P st.tm st.H fn.results.toList with
          | none => none
          | some vs => some (back nx H (oneV vs) st.H st.nx wr)
def evF (hk : Cl → Nat → List Value → Hp → Nat → Option (Option Res)) (C : Cx) (P : Program) (fl : Nat) : Nat → Cl
  | 0 => fun _ _ _ _ => none
  | n + 1 => fun f args H nx => match hk (evF hk C P fl n) f args H nx with
    | some r => r
    | none => callF (evF hk C P fl n) C P fl f args H nx
end
end Go.Proofs.YtigjjddblijpbaaGreatDoor.Ex
namespace Go.Proofs.YtigjjddblijpbaaGreatDoor.Ex
open Go
set_option linter.unusedSimpArgs false
set_option linter.unusedVariables false

/-- The numbers' names; the blocks below g0 stay; what is known of them. -/
structure Ev where
  Y : Sy
  g0 : Nat
  K : World → Prop
  hK : ∀ w w', K w → (∀ b, b < g0 → w'.heap[b]? = w.heap[b]?) → K w'
def concM (Y : Sy) (E : Lb) : List (Value × Value × Nat) → Option (List MapEntry)
  | [] => some []
  | (k, v, t) :: es => match conc Y E k, conc Y E v, E t, concM Y E es with
    | some k', some v', some p, some es' => some (⟨k', v', p.2⟩ :: es')
    | _, _, _, _ => none
/-- Stamps. -/
def concS (E : Lb) : List Nat → Option (List Nat)
  | [] => some []
  | t :: ts => match E t, concS E ts with
    | some p, some l => some (p.2 :: l)
    | _, _ => none
/-- What a block with names says. -/
def Holds (Y : Sy) (E : Lb) (p : Nat × Nat) (w : World) : AO → Prop
  | .c l T => ∃ l', concL Y E l = some l' ∧ w.heap[p.1]? = some (.cells ⟨l'⟩ T (0, 0))
  | .r l T z => ∃ l' rest, concL Y E l = some l' ∧ w.heap[p.1]? = some (.cells ⟨l' ++ rest⟩ T (0, 0)) ∧ (l' ++ rest).length = p.2 * z ∧ p.2 ≤ maxLen
  | .m es => ∃ es' ces c, w.heap[p.1]? = some (.map ⟨es'⟩ c) ∧ concM Y E es = some ces ∧ es'.Perm ces ∧ ces.Pairwise (fun a b => a.key ≠ b.key) ∧ ces.Pairwise (fun a b => a.born ≠ b.born) ∧ ∀ e ∈ ces, e.born < c
  | .it none _ _ => ∃ s seen st, w.heap[p.1]? = some (.mapIter none s seen st)
  | .it (some l) ts seen => ∃ s seen' st q, E l = some q ∧ w.heap[p.1]? = some (.mapIter (some q.1) s ⟨seen'⟩ st) ∧ concS E seen = some seen' ∧ ∀ t, t ∈ ts → ∃ r, E t = some r ∧ r.2 < s ∧ r.2 < st
section
variable {Y : Sy} {E E' : Lb} {w w' : World}
theorem concM_cons {k v : Value} {t : Nat} {es : List (Value × Value × Nat)} {r : List MapEntry} (h : concM Y E ((k, v, t) :: es) = some r) : ∃ k' v' p es', conc Y E k = some k' ∧ conc Y E v = some v' ∧ E t = some p ∧ concM Y E es = some es' ∧ r = ⟨k', v', p.2⟩ :: es' := by
  unfold concM at h
  split at h
  · rename_i k' v' p es' h1 h2 h3 h4
    cases h
    exact ⟨k', v', p, es', h1, h2, h3, h4, rfl⟩
  · cases h
theorem concM_cons' {k v k' v' : Value} {t : Nat} {p : Nat × Nat} {es : List (Value × Value × Nat)} {es' : List MapEntry} (h1 : conc Y E k = some k') (h2 : conc Y E v = some v') (h3 : E t = some p) (h4 : concM Y E es = some es') : concM Y E ((k, v, t) :: es) = some (⟨k', v', p.2⟩ :: es') := by
  unfold concM; rw [h1, h2, h3, h4]
theorem concM_ext (h : Ext E E') : ∀ {es : List (Value × Value × Nat)} {r : List MapEntry}, concM Y E es = some r → concM Y E' es = some r
  | [], r, hr => hr
  | (k, v, t) :: es, r, hr => by
    obtain ⟨k', v', p, es', h1, h2, h3, h4, rfl⟩ := concM_cons hr
    exact concM_cons' (conc_ext h _ _ h1) (conc_ext h _ _ h2) (h _ _ h3) (concM_ext h h4)
theorem concS_cons {t : Nat} {ts : List Nat} {r : List Nat} (h : concS E (t :: ts) = some r) : ∃ p l, E t = some p ∧ concS E ts = some l ∧ r = p.2 :: l := by
  unfold concS at h
  split at h
  · rename_i p l h1 h2; cases h; exact ⟨p, l, h1, h2, rfl⟩
  · cases h
theorem concS_cons' {t : Nat} {ts l : List Nat} {p : Nat × Nat} (h1 : E t = some p) (h2 : concS E ts = some l) : concS E (t :: ts) = some (p.2 :: l) := by
  unfold concS; rw [h1, h2]
theorem concS_ext (h : Ext E E') : ∀ {ts r : List Nat}, concS E ts = some r → concS E' ts = some r
  | [], r, hr => hr
  | t :: ts, r, hr => by
    obtain ⟨p, l, h1, h2, rfl⟩ := concS_cons hr
    exact concS_cons' (h _ _ h1) (concS_ext h h2)
theorem Holds.ext (h : Ext E E') {p : Nat × Nat} : ∀ {o : AO}, Holds Y E p w o → Holds Y E' p w o
  | .c l T, ⟨l', h1, h2⟩ => ⟨l', concL_ext h _ _ h1, h2⟩
  | .r l T z, ⟨l', rest, h1, h2⟩ => ⟨l', rest, concL_ext h _ _ h1, h2⟩
  | .m es, ⟨es', ces, c, h1, h2, h3⟩ => ⟨es', ces, c, h1, concM_ext h h2, h3⟩
  | .it none _ _, ⟨s, seen, st, h1⟩ => ⟨s, seen, st, h1⟩
  | .it (some l) ts seen, ⟨s, seen', st, q, h1, h2, h4, h5⟩ => ⟨s, seen', st, q, h _ _ h1, h2, concS_ext h h4, fun t ht => (h5 t ht).imp fun r hr => ⟨h _ _ hr.1, hr.2⟩⟩
theorem Holds.of_block {p : Nat × Nat} (hb : w'.heap[p.1]? = w.heap[p.1]?) : ∀ {o : AO}, Holds Y E p w o → Holds Y E p w' o
  | .c l T, ⟨l', h1, h2⟩ => ⟨l', h1, hb.trans h2⟩
  | .r l T z, ⟨l', rest, h1, h2, h3⟩ => ⟨l', rest, h1, hb.trans h2, h3⟩
  | .m es, ⟨es', ces, c, h1, h2⟩ => ⟨es', ces, c, hb.trans h1, h2⟩
  | .it none _ _, ⟨s, seen, st, h1⟩ => ⟨s, seen, st, hb.trans h1⟩
  | .it (some l) ts seen, ⟨s, seen', st, q, h1, h2, h3⟩ => ⟨s, seen', st, q, h1, hb.trans h2, h3⟩
theorem Holds.lt {p : Nat × Nat} : ∀ {o : AO}, Holds Y E p w o → p.1 < w.heap.size
  | .c l T, ⟨l', h1, h2⟩ => (Array.getElem?_eq_some_iff.1 h2).1
  | .r l T z, ⟨l', rest, h1, h2, h3⟩ => (Array.getElem?_eq_some_iff.1 h2).1
  | .m es, ⟨es', ces, c, h1, h2⟩ => (Array.getElem?_eq_some_iff.1 h1).1
  | .it none _ _, ⟨s, seen, st, h1⟩ => (Array.getElem?_eq_some_iff.1 h1).1
  | .it (some l) ts seen, ⟨s, seen', st, q, h1, h2, h3⟩ => (Array.getElem?_eq_some_iff.1 h2).1
end
/-- What a memory with names says of a world. -/
structure HR (V : Ev) (E : Lb) (H : Hp) (w : World) : Prop where
  has : ∀ l o, H.get l = some o → ∃ p, E l = some p ∧ Holds V.Y E p w o
  inj : ∀ l l' o o' p p', H.get l = some o → H.get l' = some o' → E l = some p → E l' = some p' → p.1 = p'.1 → l = l'
  low : ∀ l o p, H.get l = some o → E l = some p → V.g0 ≤ p.1
  sz : V.g0 ≤ w.heap.size
  k : V.K w
/-- What a step leaves: of the names those from nx on are new; of the blocks that stood those of wr alone have turned. -/
structure Step (V : Ev) (E : Lb) (H : Hp) (nx : Nat) (w : World) (E' : Lb) (H' : Hp) (nx' : Nat) (wr : List Nat) (w' : World) : Prop where
  ext : Ext E E'
  out : ∀ l, (l < nx ∨ nx' ≤ l) → E' l = E l
  le : nx ≤ nx'
  hr : HR V E' H' w'
  wl : ∀ l, l ∈ wr → l < nx → ∃ o, H.get l = some o
  fr : ∀ b, b < w.heap.size → (∀ l p, l ∈ wr → l < nx → E l = some p → p.1 ≠ b) → w'.heap[b]? = w.heap[b]?
  nw : ∀ l p, nx ≤ l → l < nx' → E' l = some p → w.heap.size ≤ p.1 ∨ ∃ m q, m ∈ wr ∧ m < nx ∧ E m = some q ∧ q.1 = p.1
  syn : ∀ l o, H'.get l = some o → l ∉ wr → (l < nx ∨ nx' ≤ l) → H.get l = some o
  os : w'.os = w.os
  tape : w'.tape = w.tape
  output : w'.output = w.output
  size : w.heap.size ≤ w'.heap.size
section
variable {V : Ev} {E E1 E2 : Lb} {H H1 H2 : Hp} {nx n1 n2 : Nat} {w w1 w2 : World} {r1 r2 : List Nat}
theorem HR.sub (h : HR V E H w) (hs : ∀ l o, H1.get l = some o → H.get l = some o) : HR V E H1 w :=
  ⟨fun l o hl => h.has l o (hs l o hl), fun l l' o o' p p' hl hl' => h.inj l l' o o' p p' (hs l o hl) (hs l' o' hl'), fun l o p hl => h.low l o p (hs l o hl), h.sz, h.k⟩
theorem HR.world (h : HR V E H w) (hh : w1.heap = w.heap) : HR V E H w1 := by
  refine ⟨fun l o hl => ?_, h.inj, h.low, by rw [hh]; exact h.sz, V.hK _ _ h.k (fun b _ => by rw [hh])⟩
  obtain ⟨p, h1, h2⟩ := h.has l o hl
  exact ⟨p, h1, h2.of_block (by rw [hh])⟩
theorem Step.refl (h : HR V E H w) (nx : Nat) : Step V E H nx w E H nx [] w :=
  ⟨Ext.refl E, fun _ _ => rfl, Nat.le_refl _, h, fun _ h => (by cases h), fun _ _ _ => rfl, fun l p h1 h2 => (by omega), fun _ _ h _ _ => h, rfl, rfl, rfl, Nat.le_refl _⟩
theorem Step.trans (h : Step V E H nx w E1 H1 n1 r1 w1) (h' : Step V E1 H1 n1 w1 E2 H2 n2 r2 w2) : Step V E H nx w E2 H2 n2 (r1 ++ r2) w2 := by
  have le1 := h.le
  have le2 := h'.le
  refine ⟨h.ext.trans h'.ext, fun l hl => ?_, Nat.le_trans h.le h'.le, h'.hr, fun l hl hn => ?_, fun b hb hne => ?_, fun l p hl hn hp => ?_, fun l o hl hm hn => ?_, h'.os.trans h.os, h'.tape.trans h.tape, h'.output.trans h.output, Nat.le_trans h.size h'.size⟩
  · rw [h'.out l (by omega), h.out l (by omega)]
  · rcases List.mem_append.1 hl with h1 | h1
    · exact h.wl l h1 hn
    · obtain ⟨o, ho⟩ := h'.wl l h1 (by omega)
      by_cases hm : l ∈ r1
      · exact h.wl l hm hn
      · exact ⟨o, h.syn l o ho hm (.inl hn)⟩
  · have e1 := h.fr b hb (fun l p hm hn hp => hne l p (List.mem_append.2 (.inl hm)) hn hp)
    rw [h'.fr b (Nat.lt_of_lt_of_le hb h.size) (fun l p hm hn hp => ?_), e1]
    by_cases hln : l < nx
    · rw [h.out l (.inl hln)] at hp
      exact hne l p (List.mem_append.2 (.inr hm)) hln hp
    · rcases h.nw l p (by omega) hn hp with h2 | ⟨m, q, h3, h4, h5, h6⟩
      · omega
      · rw [← h6]
        exact hne m q (List.mem_append.2 (.inl h3)) h4 h5
  · by_cases hl1 : l < n1
    · rw [h'.out l (.inl hl1)] at hp
      rcases h.nw l p hl hl1 hp with h2 | ⟨m, q, h3, h4, h5, h6⟩
      · exact .inl h2
      · exact .inr ⟨m, q, List.mem_append.2 (.inl h3), h4, h5, h6⟩
    · rcases h'.nw l p (by omega) hn hp with h2 | ⟨m, q, h3, h4, h5, h6⟩
      · exact .inl (Nat.le_trans h.size h2)
      · by_cases hm : m < nx
        · rw [h.out m (.inl hm)] at h5
          exact .inr ⟨m, q, List.mem_append.2 (.inr h3), hm, h5, h6⟩
        · rcases h.nw m q (by omega) h4 h5 with h7 | ⟨m', q', h7, h8, h9, h10⟩
          · exact .inl (by omega)
          · exact .inr ⟨m', q', List.mem_append.2 (.inl h7), h8, h9, h10.trans h6⟩
  · have h1 : l ∉ r1 := fun h => hm (List.mem_append.2 (.inl h))
    have h2 : l ∉ r2 := fun h => hm (List.mem_append.2 (.inr h))
    exact h.syn l o (h'.syn l o hl h2 (by omega)) h1 (by omega)
theorem Step.world (h : Step V E H nx w E1 H1 n1 r1 w1) {w0 : World} (hh : w.heap = w0.heap) (ho : w.os = w0.os) (ht : w.tape = w0.tape) (hu : w.output = w0.output) : Step V E H nx w0 E1 H1 n1 r1 w1 :=
  ⟨h.ext, h.out, h.le, h.hr, h.wl, fun b hb hne => by rw [← hh] at hb ⊢; exact h.fr b hb hne, fun l p h1 h2 h3 => by rw [← hh]; exact h.nw l p h1 h2 h3, h.syn, h.os.trans ho, h.tape.trans ht, h.output.trans hu, by rw [← hh]; exact h.size⟩
/-- A step of which less is known. -/
theorem Step.less (h : Step V E H nx w E1 H1 n1 r1 w1) (hs : ∀ l o, H2.get l = some o → H1.get l = some o) : Step V E H nx w E1 H2 n1 r1 w1 :=
  ⟨h.ext, h.out, h.le, h.hr.sub hs, h.wl, h.fr, h.nw, fun l o hl => h.syn l o (hs l o hl), h.os, h.tape, h.output, h.size⟩
/-- A step that was given less. -/
theorem Step.more (h : Step V E H nx w E1 H1 n1 r1 w1) (hs : ∀ l o, H.get l = some o → H2.get l = some o) : Step V E H2 nx w E1 H1 n1 r1 w1 :=
  ⟨h.ext, h.out, h.le, h.hr, fun l hl hn => (h.wl l hl hn).imp fun o ho => hs l o ho, h.fr, h.nw, fun l o hl hm hn => hs l o (h.syn l o hl hm hn), h.os, h.tape, h.output, h.size⟩
def upd (E : Lb) (l : Nat) (p : Nat × Nat) : Lb := fun k => if k = l then some p else E k
theorem upd_self (E : Lb) (l : Nat) (p : Nat × Nat) : upd E l p l = some p := by simp [upd]
theorem upd_ne (E : Lb) {l k : Nat} (p : Nat × Nat) (h : k ≠ l) : upd E l p k = E k := by simp [upd, h]
theorem upd_ext {E : Lb} {l : Nat} (p : Nat × Nat) (h : E l = none) : Ext E (upd E l p) := fun k q hk => by
  by_cases e : k = l
  · subst e; rw [h] at hk; cases hk
  · rw [upd_ne E p e]; exact hk
theorem get_none (h : HR V E H w) {l : Nat} (hl : E l = none) (o : AO) : H.get l ≠ some o := fun ho => by
  obtain ⟨p, hp, _⟩ := h.has l o ho
  rw [hl] at hp; cases hp
theorem alloc_old (w : World) (ob : Obj) (b : Nat) (hb : b < w.heap.size) : (w.alloc ob).heap[b]? = w.heap[b]? := by
  show (w.heap.push ob)[b]? = _
  rw [Array.getElem?_push, if_neg (by omega)]
/-- A new block. -/
theorem Step.alloc (h : HR V E H w) (hn : E nx = none) (cap : Nat) (ob : Obj) (o : AO) (ho : Holds V.Y (upd E nx (w.heap.size, cap)) (w.heap.size, cap) (w.alloc ob) o) :
    Step V E H nx w (upd E nx (w.heap.size, cap)) (Tr.set D H nx (some o)) (nx + 1) [] (w.alloc ob) := by
  have hx := upd_ext (w.heap.size, cap) hn
  have old : ∀ b, b < w.heap.size → (w.alloc ob).heap[b]? = w.heap[b]? := fun b hb => alloc_old w ob b hb
  have hlt : ∀ l o p, H.get l = some o → E l = some p → p.1 < w.heap.size := fun l o p h1 h2 => by
    obtain ⟨q, h3, h4⟩ := h.has l o h1
    rw [h2] at h3; cases h3
    exact h4.lt
  refine ⟨hx, fun l hl => upd_ne E _ (by omega), (by omega), ⟨fun l o' hl => ?_, fun l l' o1 o2 p p' h1 h2 h3 h4 h5 => ?_, fun l o' p h1 h2 => ?_, ?_, ?_⟩, fun l hl => (by cases hl), fun b hb _ => old b hb, fun l p h1 h2 h3 => ?_, fun l o' hl _ hb => ?_, rfl, rfl, rfl, (by simp)⟩
  · rcases Tr.get_set _ _ _ _ _ _ hl with ⟨rfl, h1⟩ | ⟨h1, h2⟩
    · cases h1
      exact ⟨_, upd_self _ _ _, ho⟩
    · obtain ⟨p, h3, h4⟩ := h.has l o' h2
      exact ⟨p, by rw [upd_ne E _ h1]; exact h3, (h4.ext hx).of_block (old _ h4.lt)⟩
  · rcases Tr.get_set _ _ _ _ _ _ h1 with ⟨rfl, _⟩ | ⟨h6, h7⟩ <;> rcases Tr.get_set _ _ _ _ _ _ h2 with ⟨rfl, _⟩ | ⟨h8, h9⟩
    · rfl
    · rw [upd_self] at h3; cases h3
      rw [upd_ne E _ h8] at h4
      have := hlt l' o2 p' h9 h4
      simp only at h5
      omega
    · rw [upd_self] at h4; cases h4
      rw [upd_ne E _ h6] at h3
      have := hlt l o1 p h7 h3
      simp only at h5
      omega
    · rw [upd_ne E _ h6] at h3
      rw [upd_ne E _ h8] at h4
      exact h.inj l l' o1 o2 p p' h7 h9 h3 h4 h5
  · rcases Tr.get_set _ _ _ _ _ _ h1 with ⟨rfl, _⟩ | ⟨h6, h7⟩
    · rw [upd_self] at h2; cases h2
      exact h.sz
    · rw [upd_ne E _ h6] at h2
      exact h.low l o' p h7 h2
  · have := h.sz
    simp; omega
  · exact V.hK _ _ h.k (fun b hb => old b (Nat.lt_of_lt_of_le hb h.sz))
  · obtain rfl : l = nx := by omega
    rw [upd_self] at h3; cases h3
    exact .inl (Nat.le_refl _)
  · rcases Tr.get_set _ _ _ _ _ _ hl with ⟨rfl, _⟩ | ⟨_, h2⟩
    · omega
    · exact h2
/-- A block that is turned. -/
theorem Step.write (h : HR V E H w) {l : Nat} {o0 o : AO} {p : Nat × Nat} (hln : l < nx) (hl : H.get l = some o0) (hp : E l = some p) (hos : w1.os = w.os) (htp : w1.tape = w.tape) (hou : w1.output = w.output) (hsz : w1.heap.size = w.heap.size)
    (hb : ∀ b, b ≠ p.1 → w1.heap[b]? = w.heap[b]?) (ho : Holds V.Y E p w1 o) : Step V E H nx w E (Tr.set D H l (some o)) nx [l] w1 := by
  refine ⟨Ext.refl E, fun _ _ => rfl, Nat.le_refl _, ⟨fun k o' hk => ?_, fun k k' o1 o2 q q' h1 h2 h3 h4 h5 => ?_, fun k o' q h1 h2 => ?_, (by rw [hsz]; exact h.sz), ?_⟩, fun k hk hn => ?_, fun b hb' hne => ?_, fun l p h1 h2 h3 => (by omega), fun k o' hk hm _ => ?_, hos, htp, hou, (by omega)⟩
  · rcases Tr.get_set _ _ _ _ _ _ hk with ⟨rfl, h1⟩ | ⟨h1, h2⟩
    · cases h1
      exact ⟨p, hp, ho⟩
    · obtain ⟨q, h3, h4⟩ := h.has k o' h2
      exact ⟨q, h3, h4.of_block (hb q.1 (fun e => h1 (h.inj k l o' o0 q p h2 hl h3 hp e)))⟩
  · rcases Tr.get_set _ _ _ _ _ _ h1 with ⟨rfl, _⟩ | ⟨h6, h7⟩ <;> rcases Tr.get_set _ _ _ _ _ _ h2 with ⟨rfl, _⟩ | ⟨h8, h9⟩
    · rfl
    · exact h.inj k k' o0 o2 q q' hl h9 h3 h4 h5
    · exact h.inj k k' o1 o0 q q' h7 hl h3 h4 h5
    · exact h.inj k k' o1 o2 q q' h7 h9 h3 h4 h5
  · rcases Tr.get_set _ _ _ _ _ _ h1 with ⟨rfl, _⟩ | ⟨_, h7⟩
    · exact h.low k o0 q hl h2
    · exact h.low k o' q h7 h2
  · exact V.hK _ _ h.k (fun b hlt => hb b (fun e => by have := h.low l o0 p hl hp; omega))
  · simp at hk; subst hk; exact ⟨o0, hl⟩
  · exact hb b (fun e => hne l p (by simp) hln hp e.symm)
  · rcases Tr.get_set _ _ _ _ _ _ hk with ⟨rfl, _⟩ | ⟨_, h2⟩
    · simp at hm
    · exact h2
end
end Go.Proofs.YtigjjddblijpbaaGreatDoor.Ex
