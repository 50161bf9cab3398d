/- An abstract machine for walks: its states, its operations, and that they are the model's. Conditions: the table tells the program's types; what a run collects holds. -/
import Derived.Deep.Quiet
import Derived.Deep.MidRow
import Derived.Laws.CopyRow
import Derived.Laws.StructEq
import Derived.Below
import Derived.WalkKit
import Derived.Test.YtodgioleaegpfaaDoorWWords
import Derived.Laws.Strings
import Derived.Laws.Slices
import Derived.Deep.AppendSrc
import Derived.Laws.IdiomStrings
namespace Go.Proofs.YtodgioleaegpfaaDoor.Am
open Go Go.RowKit Go.Proofs.YtodgioleaegpfaaDoorW.PrintWords
set_option linter.unusedVariables false

/-- A value, its blocks told by numbers of the abstract machine's own. -/
inductive AV where
  | bool (b : Bool)
  | int (k : IntKind) (n : Int)
  | str (s : ByteArray)
  | ptr (id off : Nat)
  | nilp
  | slice (id off len cap : Nat)
  | buf (id len : Nat)
  | nils
  | fn (f : Fn) (first captured : List AV)
  | nilf
  | agg (cs : List AV)
  | tup (vs : List AV)
  deriving Inhabited

mutual
def den (B : Nat → Nat) : AV → Value
  | .bool b => .bool b
  | .int k n => .int k n
  | .str s => .string s
  | .ptr id off => .pointer (some ⟨B id, off, none⟩)
  | .nilp => .pointer none
  | .slice id off len cap => .slice (some ⟨B id, off, none⟩) len cap
  | .buf id len => .slice (some ⟨B id, 0, none⟩) len (B (id - 1))
  | .nils => .slice none 0 0
  | .fn f first captured => .func f (denL B first).toArray (denL B captured).toArray
  | .nilf => .nilFunc
  | .agg cs => .agg (denL B cs).toArray
  | .tup vs => .tuple (denL B vs).toArray
def denL (B : Nat → Nat) : List AV → List Value
  | [] => []
  | x :: xs => den B x :: denL B xs
end
mutual
/-- All blocks that a value names have numbers below n. -/
def lo (n : Nat) : AV → Bool
  | .ptr id _ => Nat.blt id n
  | .slice id _ _ _ => Nat.blt id n
  | .buf id _ => Nat.blt id n
  | .fn _ first captured => loL n first && loL n captured
  | .agg cs => loL n cs
  | .tup vs => loL n vs
  | _ => true
def loL (n : Nat) : List AV → Bool
  | [] => true
  | x :: xs => lo n x && loL n xs
end
theorem denL_map (B : Nat → Nat) (l : List AV) : denL B l = l.map (den B) := by
  induction l with
  | nil => rfl
  | cons x xs ih => simp [denL, ih]
mutual
theorem den_same {B B' : Nat → Nat} {n : Nat} (hB : ∀ i, i < n → B' i = B i) : ∀ x : AV, lo n x = true → den B' x = den B x
  | .bool _, _ => rfl
  | .int _ _, _ => rfl
  | .str _, _ => rfl
  | .ptr id _, h => by simp only [lo, Nat.blt_eq] at h; simp [den, hB id h]
  | .nilp, _ => rfl
  | .slice id _ _ _, h => by simp only [lo, Nat.blt_eq] at h; simp [den, hB id h]
  | .buf id _, h => by simp only [lo, Nat.blt_eq] at h; simp [den, hB id h, hB (id - 1) (by omega)]
  | .nils, _ => rfl
  | .fn _ first captured, h => by simp only [lo, Bool.and_eq_true] at h; simp [den, denL_same hB first h.1, denL_same hB captured h.2]
  | .nilf, _ => rfl
  | .agg cs, h => by simp only [lo] at h; simp [den, denL_same hB cs h]
  | .tup vs, h => by simp only [lo] at h; simp [den, denL_same hB vs h]
theorem denL_same {B B' : Nat → Nat} {n : Nat} (hB : ∀ i, i < n → B' i = B i) : ∀ l : List AV, loL n l = true → denL B' l = denL B l
  | [], _ => rfl
  | x :: xs, h => by simp only [loL, Bool.and_eq_true] at h; simp [denL, den_same hB x h.1, denL_same hB xs h.2]
end

structure Blk where
  cells : List AV
  ty : TypeId
abbrev Env := List (Option AV)
/-- A block: its cells; or the bytes that it begins with (what is behind is not known: a slice of bytes that may grow). -/
inductive MB where
  | exact (b : Blk)
  | bytes (s : ByteArray) (e : TypeId)
abbrev Mem := List (Option MB)
def Env.tmp : Env → Nat → Option AV
  | [], _ => none
  | x :: _, 0 => x
  | _ :: r, n + 1 => Env.tmp r n
def Mem.at : Mem → Nat → Option MB
  | [], _ => none
  | x :: _, 0 => x
  | _ :: r, n + 1 => Mem.at r n
def Mem.blk (m : Mem) (i : Nat) : Option Blk :=
  match m.at i with
  | some (.exact b) => some b
  | _ => none
def Mem.byt (m : Mem) (i : Nat) : Option (ByteArray × TypeId) :=
  match m.at i with
  | some (.bytes s e) => some (s, e)
  | _ => none
def bytesV (s : ByteArray) : List Value := s.data.toList.map fun b => .int .u8 (b.toNat : Int)
inductive Ex where
  | normal
  | exit (id : Nat)
  | ret
/-- What is told ahead of a piece of code that is not carried out here: which temporaries are kept, how it leaves, and the state behind it. -/
structure LSum where
  ks : List Nat
  ex : Ex
  env : Env
  mem : Mem
structure Orc where
  auto : Bool
  bits : List (Option Bool)
  rets : List AV
  sums : List (Option LSum)
structure St where
  env : Env
  mem : Mem
  orc : Orc
/-- The frame's temporaries are what the abstract state says. -/
structure Fits (B : Nat → Nat) (env : Env) (a : Act) : Prop where
  defers : a.defers = []
  size : a.tmps.size = env.length
  tmp : ∀ i x, env.tmp i = some x → a.tmps[i]? = some (den B x)
/-- The world is what the abstract memory says; w0: the world of the call's begin; the first nin blocks are the caller's. -/
structure Rel (w0 : World) (nin : Nat) (B : Nat → Nat) (mem : Mem) (W : World) : Prop where
  os : W.os = w0.os
  tape : W.tape = w0.tape
  output : W.output = w0.output
  size : w0.heap.size ≤ W.heap.size
  frame : ∀ k, k < w0.heap.size → (∀ i, i < nin → B i ≠ k) → W.heap[k]? = w0.heap[k]?
  blk : ∀ i b, mem.blk i = some b → W.heap[B i]? = some (.cells (denL B b.cells).toArray b.ty (0, 0))
  byt : ∀ i s e, mem.byt i = some (s, e) → ∃ (cs : Array Value) (fr : Nat × Nat), W.heap[B i]? = some (.cells cs e fr) ∧ cs.toList.take s.size = bytesV s ∧ cs.size = B (i - 1) ∧ s.size ≤ cs.size ∧ ∀ o, o < cs.size → ¬ (fr.1 ≤ o ∧ o < fr.2)
  inj : ∀ i j b b', mem.at i = some b → mem.at j = some b' → B i = B j → i = j
  fresh : ∀ i b, nin ≤ i → mem.at i = some b → w0.heap.size ≤ B i ∨ ∃ j, j < nin ∧ B j = B i
  nin_le : nin ≤ mem.length
/-- A block of bytes that has come to stand behind (j) is told by an older number (n + 1); what names anything else that is new is not known any more. -/
def sinkV (n j : Nat) : AV → Option AV
  | .buf id len => bif Nat.beq id j then some (.buf (n + 1) len) else bif Nat.blt id n then some (.buf id len) else none
  | v => bif lo n v then some v else none
def sinkEnv (n j : Nat) : Env → Env
  | [] => []
  | none :: r => none :: sinkEnv n j r
  | some v :: r => sinkV n j v :: sinkEnv n j r
def toExit : Ex → Exit
  | .normal => .normal
  | .exit id => .exit id
  | .ret => .ret
def memN (ks : List Nat) (i : Nat) : Bool :=
  match ks with
  | [] => false
  | k :: r => Nat.beq k i || memN r i
/-- Only these temporaries are kept. -/
def maskA (ks : List Nat) : Nat → Env → Env
  | _, [] => []
  | i, x :: r => (bif memN ks i then x else none) :: maskA ks (i + 1) r
/-- An environment out of a list of what is known. -/
def envOf (n : Nat) (l : List (Nat × AV)) : Env :=
  match n with
  | 0 => []
  | n + 1 => envOf n l ++ [l.lookup n]
/-- A piece of code leaves as told, with the state told. -/
def CodeOK (P : Program) (w0 : World) (c : Code) (env : Env) (mem : Mem) (e : Ex) (env' : Env) (mem' : Mem) : Prop :=
  ∀ (B : Nat → Nat) (a : Act) (W : World) (Q : Exit → Act → World → Prop), Fits B env a → Rel w0 0 B mem W →
    (∀ B' a' W', Fits B' env' a' → Rel w0 0 B' mem' W' → Q (toExit e) a' W') → c.wp P Q a W
inductive Cst where
  | b (x v : Bool)
  | call (f : FuncId) (args : List AV) (r : AV)
  | code (c : Code) (env : Env) (mem : Mem) (e : Ex) (env' : Env) (mem' : Mem)
/-- What is asked of the world in which a function is called: the call's begin is w0, and nothing that was there has changed. -/
def Cst.holds (P : Program) (w0 : World) : Cst → Prop
  | .b x v => x = v
  | .call f args r => (∃ fn, P.funcs[f]? = some fn ∧ (fn.name == "runtime.NumGoroutine") = false ∧ fn.body.isNone = false) ∧ ∀ (B : Nat → Nat) (W : World), Below w0.heap.size w0 W → Calls P f (denL B args).toArray W fun e w' => e = .returned (den B r) ∧ Below W.heap.size W w'
  | .code c env mem e env' mem' => CodeOK P w0 c env mem e env' mem'

/-- What a type is. -/
inductive TK where
  | bool | int (k : IntKind) | str | ptr | slice (e : TypeId) | struct (fs : List (Nat × TypeId)) | array (n : Nat) (e : TypeId) | func | other
structure TyI where
  k : TK
  size : Nat
  zero : List AV
  eqok : Bool
def TK.isAgg : TK → Bool
  | .struct _ | .array _ _ => true
  | _ => false
abbrev Tab := List (TypeId × TyI)
def Tab.at : Tab → TypeId → Option TyI
  | [], _ => none
  | (u, i) :: r, t => bif Nat.beq u t then some i else Tab.at r t

def Tab.kind (T : Tab) (t : TypeId) : Option TK :=
  match T.at t with
  | some i => some i.k
  | none => none
/-- What a constant is. -/
def ofV1 : Value → Option AV
  | .bool b => some (.bool b)
  | .int k n => some (.int k n)
  | .string s => some (.str s)
  | .pointer none => some .nilp
  | .slice none 0 0 => some .nils
  | .nilFunc => some .nilf
  | .func f ⟨[]⟩ ⟨[]⟩ => some (.fn f [] [])
  | _ => none
def ofVs : List Value → Option (List AV)
  | [] => some []
  | v :: vs => match ofV1 v, ofVs vs with
    | some x, some xs => some (x :: xs)
    | _, _ => none
def ofV : Value → Option AV
  | .agg ⟨cs⟩ => (ofVs cs).map .agg
  | .tuple ⟨cs⟩ => (ofVs cs).map .tup
  | v => ofV1 v

def ev (env : Env) : Operand → Option AV
  | .tmp t => env.tmp t
  | .const v => ofV v
  | .func f => some (.fn (.func f) [] [])
  | .global _ => none
def evs (env : Env) : List Operand → Option (List AV)
  | [] => some []
  | x :: xs => match ev env x, evs env xs with
    | some v, some vs => some (v :: vs)
    | _, _ => none
def evps (env : Env) : List (Nat × Operand) → Option (List (Nat × AV))
  | [] => some []
  | (i, x) :: xs => match ev env x, evps env xs with
    | some v, some vs => some ((i, v) :: vs)
    | _, _ => none

/-- A test: decided by its own value ('none' or auto), or told by the oracle, and to be shown. -/
def ask (o : Orc) (t : Bool) : Option (Bool × Orc × List Cst) :=
  match o with
  | ⟨true, _, _, _⟩ => some (t, o, [])
  | ⟨false, none :: bs, rs, ss⟩ => some (t, ⟨false, bs, rs, ss⟩, [])
  | ⟨false, some b :: bs, rs, ss⟩ => some (b, ⟨false, bs, rs, ss⟩, [.b t b])
  | ⟨false, [], _, _⟩ => some (t, o, [])
/-- What must hold. -/
def chk (o : Orc) (t : Bool) : Option (Orc × List Cst) :=
  match o with
  | ⟨true, _, _, _⟩ => match t with
    | true => some (o, [])
    | false => none
  | ⟨false, none :: bs, rs, ss⟩ => match t with
    | true => some (⟨false, bs, rs, ss⟩, [])
    | false => none
  | ⟨false, some _ :: bs, rs, ss⟩ => some (⟨false, bs, rs, ss⟩, [.b t true])
  | ⟨false, [], _, _⟩ => match t with
    | true => some (o, [])
    | false => none

def cellsA : AV → List AV
  | .agg cs => cs
  | v => [v]
def oneA : AV → Bool
  | .agg _ | .tup _ => false
  | _ => true
def oneL : List AV → Bool
  | [] => true
  | x :: xs => oneA x && oneL xs
def partA (T : Tab) (t : TypeId) (cs : List AV) (off : Nat) : Option AV :=
  match T.at t with
  | some i => bif i.k.isAgg then some (.agg ((cs.drop off).take i.size)) else cs[off]?
  | none => none

def eqFr (T : Tab) (rec : TypeId → AV → AV → Option Bool) (xs ys : List AV) : List (Nat × TypeId) → Option Bool
  | [] => some true
  | (off, t) :: fs => match partA T t xs off, partA T t ys off with
    | some a, some b => match rec t a b, eqFr T rec xs ys fs with
      | some r, some rs => some (r && rs)
      | _, _ => none
    | _, _ => none
/-- Two values of a type: are they equal? -/
def eqA (T : Tab) : Nat → TypeId → AV → AV → Option Bool
  | 0, _, _, _ => none
  | d + 1, t, x, y =>
    match T.at t with
    | none => none
    | some i => match i.k, x, y with
      | .bool, .bool a, .bool b => some (a == b)
      | .int _, .int k a, .int k' b => if k = k' then some (a == b) else none
      | .str, .str a, .str b => some (a.toList == b.toList)
      | .struct fs, .agg xs, .agg ys => bif i.eqok then eqFr T (eqA T d) xs ys fs else none
      | _, _, _ => none

abbrev PR := Option (AV × Orc × List Cst)
def cmpI (op : BinOp) (a b : Int) : Option Bool :=
  match op with
  | .eql => some (a == b)
  | .neq => some (a != b)
  | .lss => some (decide (a < b))
  | .leq => some (decide (a ≤ b))
  | .gtr => some (decide (a > b))
  | .geq => some (decide (a ≥ b))
  | _ => none
def binI (op : BinOp) (k : IntKind) (a b : Int) (o : Orc) : PR :=
  match op with
  | .add => some (.int k (k.wrap (a + b)), o, [])
  | .sub => some (.int k (k.wrap (a - b)), o, [])
  | .mul => some (.int k (k.wrap (a * b)), o, [])
  | .quo => (chk o (b != 0)).map fun (o', c) => (.int k (k.wrap (a.tdiv b)), o', c)
  | .rem => (chk o (b != 0)).map fun (o', c) => (.int k (a.tmod b), o', c)
  | .and => some (.int k (bits .and k a b), o, [])
  | .or => some (.int k (bits .or k a b), o, [])
  | .xor => some (.int k (bits .xor k a b), o, [])
  | .andNot => some (.int k (bits .andNot k a b), o, [])
  | op => (cmpI op a b).map fun r => (.bool r, o, [])
def binS (op : BinOp) (a b : ByteArray) (o : Orc) : PR :=
  match op with
  | .add => (chk o (decide (((a.size + b.size : Nat) : Int) ≤ IntKind.i64.max))).map fun (o', c) => (.str (a ++ b), o', c)
  | .eql => some (.bool (a.toList == b.toList), o, [])
  | .neq => some (.bool (!(a.toList == b.toList)), o, [])
  | _ => none
def binA (T : Tab) (op : BinOp) (t : TypeId) (x y : AV) (o : Orc) : PR :=
  match x, y with
  | .int k a, .int k' b => match op with
    | .shl => (chk o (decide (0 ≤ b))).map fun (o', c) => (.int k (k.wrap (a * 2 ^ min b.toNat k.bits)), o', c)
    | .shr => (chk o (decide (0 ≤ b))).map fun (o', c) => (.int k (a / 2 ^ min b.toNat k.bits), o', c)
    | op => if k = k' then binI op k a b o else none
  | .str a, .str b => binS op a b o
  | x, y => match op with
    | .eql => (eqA T 30 t x y).map fun r => (.bool r, o, [])
    | .neq => (eqA T 30 t x y).map fun r => (.bool (!r), o, [])
    | _ => none

def splice (cs : List AV) (off : Nat) : List AV → List AV
  | [] => cs
  | v :: vs => splice (cs.set off v) (off + 1) vs
def fillA (place : Nat → Option (Nat × Nat)) (cells : List AV) : List (Nat × AV) → Option (List AV)
  | [] => some cells
  | (i, v) :: rest => match place i with
    | none => none
    | some (off, size) => bif Nat.beq (cellsA v).length size && Nat.ble (off + size) cells.length then fillA place (splice cells off (cellsA v)) rest else none
def sizesA (T : Tab) : List (Nat × TypeId) → Option (List (Nat × Nat))
  | [] => some []
  | (off, t) :: fs => match T.at t, sizesA T fs with
    | some i, some r => some ((off, i.size) :: r)
    | _, _ => none
def buildA (T : Tab) (t : TypeId) (parts : List (Nat × AV)) : Option AV :=
  match T.at t with
  | none => none
  | some i => match i.k with
    | .struct fs => match sizesA T fs with
      | some pl => (fillA (fun j => pl[j]?) i.zero parts).map .agg
      | none => none
    | .array _ e => match T.at e with
      | some j => (fillA (fun n => some (n * j.size, j.size)) i.zero parts).map .agg
      | none => none
    | _ => none
def bytesOf : List AV → Option (List UInt8)
  | [] => some []
  | .int .u8 n :: r => (bytesOf r).map fun l => UInt8.ofNat n.toNat :: l
  | _ => none
def rangeB : List AV → Bool
  | [] => true
  | .int .u8 n :: r => decide (0 ≤ n ∧ n < 256) && rangeB r
  | _ => false
/-- What an operation that leaves the memory alone hands back. -/
def pureA (T : Tab) (env : Env) (mem : Mem) (op : Op) (o : Orc) : PR :=
  match op with
  | .move x => (ev env x).map fun v => (v, o, [])
  | .assign x => (ev env x).map fun v => (v, o, [])
  | .pick c a b => match ev env c with
    | some (.bool t) => match ask o t with
      | some (true, o', cs) => (ev env a).map fun v => (v, o', cs)
      | some (false, o', cs) => (ev env b).map fun v => (v, o', cs)
      | none => none
    | _ => none
  | .build t ps => match evps env ps.toList with
    | some vs => (buildA T t vs).map fun v => (v, o, [])
    | none => none
  | .load t a => match ev env a with
    | some (.ptr id off) => match mem.blk id, T.at t with
      | some b, some i => bif i.k.isAgg then (bif Nat.ble (off + i.size) b.cells.length then some (.agg ((b.cells.drop off).take i.size), o, []) else none) else (b.cells[off]?).map fun v => (v, o, [])
      | none, some i => match mem.byt id, i.k with
        | some (s, _), .int .u8 => (chk o (decide (off < s.size))).map fun (o', c) => (.int .u8 (bt s (off : Int)), o', c)
        | _, _ => none
      | _, none => none
    | _ => none
  | .nilCheck x => match ev env x with
    | some (.ptr id off) => some (.ptr id off, o, [])
    | some (.fn (.func f) a c) => some (.fn (.func f) a c, o, [])
    | _ => none
  | .binOp op t x y _ => match ev env x, ev env y with
    | some a, some b => binA T op t a b o
    | _, _ => none
  | .unOp op _ x => match op, ev env x with
    | .not, some (.bool b) => some (.bool (!b), o, [])
    | .neg, some (.int k n) => some (.int k (k.wrap (0 - n)), o, [])
    | _, _ => none
  | .convert src dst x => match T.kind src, T.kind dst, ev env x with
    | some (.int _), some (.int k), some (.int _ n) => some (.int k (k.wrap n), o, [])
    | some .str, some .str, some (.str s) => some (.str s, o, [])
    | some (.slice e), some .str, some .nils => match T.kind e with
      | some (.int .u8) => some (.str ⟨#[]⟩, o, [])
      | _ => none
    | some (.slice e), some .str, some (.slice id off len _) => match T.kind e, mem.blk id with
      | some (.int .u8), some b => bif Nat.ble (off + len) b.cells.length then (bytesOf ((b.cells.drop off).take len)).map fun l => (.str ⟨l.toArray⟩, o, []) else none
      | _, _ => none
    | some (.slice e), some .str, some (.buf id len) => match T.kind e, mem.byt id with
      | some (.int .u8), some (s, _) => (chk o (decide (len ≤ s.size))).map fun (o', c) => (.str (s.extract 0 len), o', c)
      | _, _ => none
    | _, _, _ => none
  | .makeFunc f first captured => match evs env first.toList, evs env captured.toList with
    | some a, some c => some (.fn f a c, o, [])
    | _, _ => none
  | .slice t x l h none => match T.kind t, ev env x with
    | some .str, some (.str s) =>
      match (match l with | none => some (0 : Int) | some y => match ev env y with | some (.int _ n) => some n | _ => none), (match h with | none => some (s.size : Int) | some y => match ev env y with | some (.int _ n) => some n | _ => none) with
      | some i, some j => match chk o (decide (0 ≤ j ∧ j ≤ (s.size : Int))) with
        | some (o1, c1) => match chk o1 (decide (0 ≤ i ∧ i ≤ j)) with
          | some (o2, c2) => some (.str (s.extract i.toNat j.toNat), o2, c1 ++ c2)
          | none => none
        | none => none
      | _, _ => none
    | some (.slice e), some (.buf id _) => match l, h, mem.byt id, T.at e with
      | none, some y, some (s, _), some _ => match ev env y with
        | some (.int _ j) => (chk o (decide (0 ≤ j ∧ j ≤ (s.size : Int)))).map fun (o', c) => (.buf id j.toNat, o', c)
        | _ => none
      | _, _, _, _ => none
    | _, _ => none
  | .fieldAddr s x f => match T.kind s, ev env x with
    | some (.struct fs), some (.ptr id off) => match fs[f]? with
      | some (fo, ft) => match T.at ft with
        | some i => bif Nat.beq i.size 0 then none else some (.ptr id (off + fo), o, [])
        | none => none
      | none => none
    | _, _ => none
  | .field t x f => match T.kind t, ev env x with
    | some (.struct fs), some (.agg cs) => match fs[f]? with
      | some (fo, ft) => match T.at ft with
        | some i => bif Nat.ble (fo + i.size) cs.length then (partA T ft cs fo).map fun v => (v, o, []) else none
        | none => none
      | none => none
    | _, _ => none
  | .indexAddr t x ix => match T.kind t, ev env x, ev env ix with
    | some (.slice e), some (.slice id off len _), some (.int _ i) => match T.at e, chk o (decide (0 ≤ i ∧ i < (len : Int))) with
      | some j, some (o', c) => some (.ptr id (off + i.toNat * j.size), o', c)
      | _, _ => none
    | some (.slice e), some (.buf id len), some (.int _ i) => match T.at e, chk o (decide (0 ≤ i ∧ i < (len : Int))) with
      | some j, some (o', c) => some (.ptr id (i.toNat * j.size), o', c)
      | _, _ => none
    | some (.array n e), some (.ptr id off), some (.int _ i) => match T.at e, chk o (decide (0 ≤ i ∧ i < (n : Int))) with
      | some j, some (o', c) => some (.ptr id (off + i.toNat * j.size), o', c)
      | _, _ => none
    | _, _, _ => none
  | .index t x ix => match T.kind t, ev env x, ev env ix with
    | some .str, some (.str s), some (.int _ i) => (chk o (decide (0 ≤ i ∧ i < (s.size : Int)))).map fun (o', c) => (.int .u8 (bt s i), o', c)
    | some (.array n e), some (.agg cs), some (.int _ i) => match T.at e, chk o (decide (0 ≤ i ∧ i < (n : Int))) with
      | some j, some (o', c) => (partA T e cs (i.toNat * j.size)).map fun v => (v, o', c)
      | _, _ => none
    | _, _, _ => none
  | .extract x i => match ev env x with
    | some (.tup vs) => (vs[i]?).map fun v => (v, o, [])
    | _ => none
  | .call c => match c.callee, c.args.toList with
    | .builtin .len, [x] => match c.argTypes.toList, ev env x with
      | [t], some v => match T.kind t, v with
        | some .str, .str s => some (.int .i64 (s.size : Int), o, [])
        | some (.slice _), .slice _ _ n _ => some (.int .i64 (n : Int), o, [])
        | some (.slice _), .buf _ n => some (.int .i64 (n : Int), o, [])
        | some (.slice _), .nils => some (.int .i64 0, o, [])
        | _, _ => none
      | _, _ => none
    | .builtin .max, [x, y] => match ev env x, ev env y with
      | some (.int .i64 a), some (.int .i64 b) => some (.int .i64 (if b > a then b else a), o, [])
      | _, _ => none
    | .builtin .min, [x, y] => match ev env x, ev env y with
      | some (.int .i64 a), some (.int .i64 b) => some (.int .i64 (if b < a then b else a), o, [])
      | _, _ => none
    | _, _ => none
  | _ => none
/-- A call of a function: which one, and what it is handed. -/
def callA (env : Env) (op : Op) : Option (FuncId × List AV) :=
  match op with
  | .call c => match c.callee with
    | .value f => match ev env f, evs env c.args.toList with
      | some (.fn (.func g) first captured), some vs => some (g, first ++ vs ++ captured)
      | _, _ => none
    | _ => none
  | _ => none
def wantA (ops : List Oper) (env : Env) (g : Option (Nat × Bool)) (o : Orc) : Option (Bool × Orc × List Cst) :=
  match g with
  | none => some (true, o, [])
  | some (j, want) => match (ops[j]?).bind (·.dst) with
    | none => none
    | some d => match env.tmp d with
      | some (.bool t) => ask o (t == want)
      | some (.tup []) => some (false, o, [])
      | _ => none
def putA (env : Env) (d : Option Nat) (v : AV) : Env :=
  match d with
  | none => env
  | some d => env.set d (some v)
/-- One operation that is wanted and leaves the memory alone, a call of a function among them. -/
def quietA (T : Tab) (s : St) (op : Op) : PR :=
  match pureA T s.env s.mem op s.orc with
  | some r => some r
  | none => match callA s.env op, s.orc with
    | some (f, args), ⟨au, bs, r :: rs, ss⟩ => some (r, ⟨au, bs, rs, ss⟩, [.call f args r])
    | _, _ => none
/-- Operations that leave the memory alone, in the order of the text. -/
def quietsA (T : Tab) (ops : List Oper) : List Oper → St → Option (St × List Cst)
  | [], s => some (s, [])
  | o :: rest, s => match wantA ops s.env o.guard s.orc with
    | none => none
    | some (false, r, c) => match quietsA T ops rest ⟨putA s.env o.dst (.tup []), s.mem, r⟩ with
      | some (s', cs) => some (s', c ++ cs)
      | none => none
    | some (true, r, c) => match quietA T ⟨s.env, s.mem, r⟩ o.op with
      | none => none
      | some (v, r', c') => match quietsA T ops rest ⟨putA s.env o.dst v, s.mem, r'⟩ with
        | some (s', cs) => some (s', c ++ (c' ++ cs))
        | none => none
def loEnv (n : Nat) : Env → Bool
  | [] => true
  | none :: r => loEnv n r
  | some x :: r => lo n x && loEnv n r
def loMem (n : Nat) : Mem → Bool
  | [] => true
  | none :: r => loMem n r
  | some (.exact b) :: r => loL n b.cells && loMem n r
  | some (.bytes _ _) :: r => loMem n r
/-- A new block: its number is the next one, and nothing that is there names it. -/
def newA (s : St) (b : Blk) : Option (Nat × Mem) :=
  bif loEnv s.mem.length s.env && loMem s.mem.length s.mem && loL s.mem.length b.cells then some (s.mem.length, s.mem ++ [some (.exact b)]) else none
def replA (zero : List AV) : Nat → List AV
  | 0 => []
  | n + 1 => zero ++ replA zero n
/-- A new block of bytes: two numbers are taken (the first stands for its capacity). -/
def newBytes (s : St) (mem : Mem) (z : ByteArray) (e : TypeId) : Option (Nat × Mem) :=
  bif loEnv s.mem.length s.env && loMem s.mem.length s.mem then some (s.mem.length + 1, mem ++ [none, some (.bytes z e)]) else none
/-- One operation that makes a block or writes into one: what it hands back, and the memory. -/
def writeA (T : Tab) (s : St) (op : Op) : Option (AV × Mem × Orc × List Cst) :=
  match op with
  | .alloc t => match T.at t with
    | some i => (newA s ⟨i.zero, t⟩).map fun (n, m) => (.ptr n 0, m, s.orc, [])
    | none => none
  | .box t x => match ev s.env x with
    | some v => (newA s ⟨cellsA v, t⟩).map fun (n, m) => (.ptr n 0, m, s.orc, [])
    | none => none
  | .buildSlice t len ps => match T.kind t, evps s.env ps.toList with
    | some (.slice e), some vs => match T.at e with
      | some j => bif Nat.beq (len * j.size) 0 then none else bif Nat.ble (len * j.size) (2 ^ 24) && Nat.beq j.zero.length j.size then
        match fillA (fun n => some (n * j.size, j.size)) (replA j.zero len) vs with
          | some cs => (newA s ⟨cs, e⟩).map fun (n, m) => (.slice n 0 len len, m, s.orc, [])
          | none => none
        else none
      | none => none
    | _, _ => none
  | .store t a x => match ev s.env a, ev s.env x, T.at t with
    | some (.ptr id off), some v, some i => match s.mem.blk id with
      | some b => bif Nat.beq (cellsA v).length i.size && Nat.ble (off + i.size) b.cells.length && oneL (cellsA v) then some (.tup [], s.mem.set id (some (.exact ⟨splice b.cells off (cellsA v), b.ty⟩)), s.orc, []) else none
      | none => none
    | _, _, _ => none
  | .convert src dst x => match T.kind src, T.kind dst, ev s.env x with
    | some .str, some (.slice e), some (.str z) => match T.kind e with
      | some (.int .u8) => (newBytes s s.mem z e).map fun (n, m) => (.buf n z.size, m, s.orc, [])
      | _ => none
    | _, _, _ => none
  | .call c => match c.callee, c.args.toList, c.argTypes.toList with
    | .builtin .append, [x, y], [t, u] => match Nat.beq t u, T.kind t, ev s.env x, ev s.env y with
      | true, some (.slice e), some xv, some (.slice id2 off m _) => match T.at e, T.kind e, s.mem.blk id2 with
        | some _, some (.int .u8), some b => bif Nat.ble (off + m) b.cells.length && Nat.blt 0 m then
          match bytesOf ((b.cells.drop off).take m), xv with
            | some l, .nils => match newBytes s s.mem ⟨l.toArray⟩ e, chk s.orc (decide (m ≤ 140737488355328) && rangeB ((b.cells.drop off).take m)) with
              | some (n, mm), some (o', c) => some (.buf n m, mm, o', c)
              | _, _ => none
            | some l, .buf id len => match s.mem.byt id with
              | some (z, e') => match Nat.beq e e', newBytes s (s.mem.set id none) (z.extract 0 len ++ ⟨l.toArray⟩) e, chk s.orc (decide (len ≤ z.size ∧ len + m ≤ 140737488355328) && rangeB ((b.cells.drop off).take m)) with
                | true, some (n, mm), some (o', c) => some (.buf n (len + m), mm, o', c)
                | _, _, _ => none
              | none => none
            | _, _ => none
          else none
        | _, _, _ => none
      | _, _, _, _ => none
    | _, _, _ => none
  | _ => none
def sinkMem (n j : Nat) (m : Mem) : Option Mem :=
  match m.at j with
  | some (.bytes s e) => bif loMem n (m.take n) && Nat.ble n (m.take n).length && Nat.blt n j then some (m.take n ++ [none, some (.bytes s e)]) else none
  | _ => none
/-- Operations in the order of the text. -/
def seqA (T : Tab) (ops : List Oper) : List Oper → St → Option (St × List Cst)
  | [], s => some (s, [])
  | o :: rest, s => match wantA ops s.env o.guard s.orc with
    | none => none
    | some (false, r, c) => match seqA T ops rest ⟨putA s.env o.dst (.tup []), s.mem, r⟩ with
      | some (s', cs) => some (s', c ++ cs)
      | none => none
    | some (true, r, c) => match quietA T ⟨s.env, s.mem, r⟩ o.op with
      | some (v, r', c') => match seqA T ops rest ⟨putA s.env o.dst v, s.mem, r'⟩ with
        | some (s', cs) => some (s', c ++ (c' ++ cs))
        | none => none
      | none => match writeA T ⟨s.env, s.mem, r⟩ o.op with
        | some (v, m, r', c') => match seqA T ops rest ⟨putA s.env o.dst v, m, r'⟩ with
          | some (s', cs) => some (s', c ++ (c' ++ cs))
          | none => none
        | none => none
/-- A piece of code, from a state; fl: it is the body of a loop, round after round. -/
def execA (T : Tab) : Nat → Bool → Code → St → Option (Ex × St × List Cst)
  | 0, _, _, _ => none
  | n + 1, true, c, s => match execA T n false c s with
    | some (.normal, s1, c1) => match execA T n true c s1 with
      | some (e, s2, c2) => some (e, s2, c1 ++ c2)
      | none => none
    | r => r
  | n + 1, false, c, s => match c with
    | .skip => some (.normal, s, [])
    | .ret => some (.ret, s, [])
    | .exit id => some (.exit id, s, [])
    | .seq a b => match execA T n false a s with
      | some (.normal, s1, c1) => match execA T n false b s1 with
        | some (e, s2, c2) => some (e, s2, c1 ++ c2)
        | none => none
      | r => r
    | .cond x a b => match ev s.env x with
      | some (.bool t) => match ask s.orc t with
        | some (true, o, c1) => match execA T n false a ⟨s.env, s.mem, o⟩ with
          | some (e, s2, c2) => some (e, s2, c1 ++ c2)
          | none => none
        | some (false, o, c1) => match execA T n false b ⟨s.env, s.mem, o⟩ with
          | some (e, s2, c2) => some (e, s2, c1 ++ c2)
          | none => none
        | none => none
      | _ => none
    | .block id a => match execA T n false a s with
      | some (.exit i, s1, c1) => bif Nat.beq i id then some (.normal, s1, c1) else some (.exit i, s1, c1)
      | r => r
    | .loop a => match s.orc with
      | ⟨au, bs, rs, some ls :: ss⟩ => some (ls.ex, ⟨ls.env, ls.mem, ⟨au, bs, rs, ss⟩⟩, [.code (.loop a) (maskA ls.ks 0 s.env) s.mem ls.ex ls.env ls.mem])
      | ⟨au, bs, rs, none :: ss⟩ => execA T n true a ⟨s.env, s.mem, ⟨au, bs, rs, ss⟩⟩
      | ⟨au, bs, rs, []⟩ => execA T n true a s
    | .rangeFunc f ps x y => match s.orc with
      | ⟨au, bs, rs, some ls :: ss⟩ => some (ls.ex, ⟨ls.env, ls.mem, ⟨au, bs, rs, ss⟩⟩, [.code (.rangeFunc f ps x y) (maskA ls.ks 0 s.env) s.mem ls.ex ls.env ls.mem])
      | _ => none
    | .region _ ops false => (seqA T ops.toList ops.toList s).map fun (s', cs) => (.normal, s', cs)
    | .region _ ops true => bif Region.lexB .any ops then (quietsA T ops.toList ops.toList s).map fun (s', cs) => (.normal, s', cs) else none
    | _ => none
end Go.Proofs.YtodgioleaegpfaaDoor.Am
namespace Go.Proofs.YtodgioleaegpfaaDoor.Am
open Go Go.RowKit Go.Proofs.YtodgioleaegpfaaDoorW.PrintWords
set_option linter.unusedVariables false
set_option linter.unusedSimpArgs false

theorem ofV1_den {v : Value} {x : AV} (h : ofV1 v = some x) (B : Nat → Nat) : den B x = v := by
  unfold ofV1 at h
  split at h <;> first | (cases h; done) | (cases h; rfl)
theorem ofVs_den : ∀ {vs : List Value} {xs : List AV}, ofVs vs = some xs → ∀ B : Nat → Nat, denL B xs = vs
  | [], xs, h, B => by simp [ofVs] at h; subst h; rfl
  | v :: vs, xs, h, B => by
    unfold ofVs at h
    split at h
    · rename_i x ys hx hy
      cases h
      simp [denL, ofV1_den hx B, ofVs_den hy B]
    · cases h
theorem ofV_den {v : Value} {x : AV} (h : ofV v = some x) (B : Nat → Nat) : den B x = v := by
  unfold ofV at h
  split at h
  · rename_i cs
    obtain ⟨xs, hx, rfl⟩ := Option.map_eq_some_iff.1 h
    simp [den, ofVs_den hx B]
  · rename_i cs
    obtain ⟨xs, hx, rfl⟩ := Option.map_eq_some_iff.1 h
    simp [den, ofVs_den hx B]
  · exact ofV1_den h B
theorem Env.tmp_eq : ∀ (env : Env) (i : Nat), env.tmp i = (env[i]?).join
  | [], i => by simp [Env.tmp]
  | x :: r, 0 => by simp [Env.tmp]
  | x :: r, i + 1 => by simp [Env.tmp, Env.tmp_eq r i]
theorem Mem.at_eq : ∀ (m : Mem) (i : Nat), m.at i = (m[i]?).join
  | [], i => by simp [Mem.at]
  | x :: r, 0 => by simp [Mem.at]
  | x :: r, i + 1 => by simp [Mem.at, Mem.at_eq r i]
theorem Mem.blk_at {m : Mem} {i : Nat} {b : Blk} (h : m.blk i = some b) : m.at i = some (.exact b) := by
  unfold Mem.blk at h
  split at h
  · rename_i b' hb; cases h; exact hb
  · cases h
theorem Mem.byt_at {m : Mem} {i : Nat} {s : ByteArray} {e : TypeId} (h : m.byt i = some (s, e)) : m.at i = some (.bytes s e) := by
  unfold Mem.byt at h
  split at h
  · rename_i s' e' hb; cases h; exact hb
  · cases h
theorem Mem.blk_of {m : Mem} {i : Nat} {b : Blk} (h : m.at i = some (.exact b)) : m.blk i = some b := by unfold Mem.blk; rw [h]
theorem Mem.byt_of {m : Mem} {i : Nat} {s : ByteArray} {e : TypeId} (h : m.at i = some (.bytes s e)) : m.byt i = some (s, e) := by unfold Mem.byt; rw [h]
theorem denL_length (B : Nat → Nat) (l : List AV) : (denL B l).length = l.length := by simp [denL_map]
theorem denL_get (B : Nat → Nat) (l : List AV) (i : Nat) : (denL B l)[i]? = (l[i]?).map (den B) := by simp [denL_map]
theorem denL_append (B : Nat → Nat) (l m : List AV) : denL B (l ++ m) = denL B l ++ denL B m := by simp [denL_map]

theorem Fits.put {B : Nat → Nat} {env : Env} {a : Act} (h : Fits B env a) (d : Option Nat) (v : AV) : Fits B (putA env d v) (a.put d (den B v)) := by
  cases d with
  | none => exact h
  | some d =>
    refine ⟨h.defers, by simp [putA, Act.put, h.size], fun i x hx => ?_⟩
    simp only [putA, Env.tmp_eq, List.getElem?_set] at hx
    simp only [Act.put, Array.getElem?_setIfInBounds]
    by_cases e : d = i
    · subst e
      rw [if_pos rfl] at hx ⊢
      rw [h.size]
      split at hx
      · rename_i hl
        simp at hx
        subst hx
        simp [hl]
      · simp at hx
    · rw [if_neg e] at hx ⊢
      exact h.tmp i x (by rw [Env.tmp_eq]; exact hx)
theorem ev_den {B : Nat → Nat} {env : Env} {a : Act} (h : Fits B env a) {x : Operand} {v : AV} (hv : ev env x = some v) : a.eval x = den B v := by
  cases x with
  | tmp t =>
    have := h.tmp t v hv
    simp [Act.eval, this]
  | const c => exact (ofV_den hv B).symm
  | func f => cases hv; rfl
  | global g => cases hv
theorem evs_den {B : Nat → Nat} {env : Env} {a : Act} (h : Fits B env a) : ∀ {xs : List Operand} {vs : List AV}, evs env xs = some vs → xs.map a.eval = denL B vs
  | [], vs, hv => by cases hv; rfl
  | x :: xs, vs, hv => by
    unfold evs at hv
    split at hv
    · rename_i v ws h1 h2
      cases hv
      simp [denL, ev_den h h1, evs_den h h2]
    · cases hv
theorem evps_den {B : Nat → Nat} {env : Env} {a : Act} (h : Fits B env a) : ∀ {xs : List (Nat × Operand)} {vs : List (Nat × AV)}, evps env xs = some vs → xs.map (fun p => (p.1, a.eval p.2)) = vs.map fun p => (p.1, den B p.2)
  | [], vs, hv => by cases hv; rfl
  | (i, x) :: xs, vs, hv => by
    unfold evps at hv
    split at hv
    · rename_i v ws h1 h2
      cases hv
      simp [ev_den h h1, evps_den h h2]
    · cases hv

abbrev Holds (P : Program) (w0 : World) (cs : List Cst) : Prop := ∀ c ∈ cs, c.holds P w0
theorem ask_den {P : Program} {w0 : World} {o o' : Orc} {t b : Bool} {cs : List Cst} (h : ask o t = some (b, o', cs)) (hc : Holds P w0 cs) : t = b := by
  unfold ask at h
  split at h
  · cases h; rfl
  · cases h; rfl
  · cases h; exact hc _ (List.mem_singleton.2 rfl)
  · cases h; rfl
theorem chk_den {P : Program} {w0 : World} {o o' : Orc} {t : Bool} {cs : List Cst} (h : chk o t = some (o', cs)) (hc : Holds P w0 cs) : t = true := by
  unfold chk at h
  split at h
  · split at h
    · rfl
    · cases h
  · split at h
    · rfl
    · cases h
  · cases h; exact hc _ (List.mem_singleton.2 rfl)
  · split at h
    · rfl
    · cases h

/-- The program's word on a type. -/
structure TyOK (P : Program) (t : TypeId) (i : TyI) : Prop where
  info : ∃ ti, P.info? t = some ti ∧ ti.size = i.size ∧ ∃ zv, ti.zero = some zv ∧ (∀ B, denL B i.zero = zv.cells.toList) ∧ loL 0 i.zero = true
  desc : ∃ d, P.underlying t = some d ∧ d.isRow = i.k.isAgg ∧ match i.k with
    | .bool => d = .bool
    | .int k => d = .int k
    | .str => d = .string
    | .ptr => ∃ e, d = .pointer e
    | .slice e => d = .slice e
    | .struct fs => ∃ F : Array Field, d = .struct F ∧ F.toList.map (fun f => (f.offset, f.type)) = fs ∧ (i.eqok = true → P.stoodInHeld t = false ∧ F.toList.all (fun f => f.name != "_") = true ∧ P.eqGuardType P.depth t = false)
    | .array n e => d = .array n e ∧ (i.eqok = true → P.eqGuardType P.depth t = false)
    | .func => ∃ a b c, d = .func a b c
    | .other => True
  u8 : i.k = .int .u8 → ∃ ti, P.info? t = some ti ∧ ti.size = 1 ∧ ti.bytes = 1 ∧ ∃ zv, ti.zero = some zv ∧ zv.cells.size = 1
def TabOK (P : Program) (T : Tab) : Prop := ∀ t i, T.at t = some i → TyOK P t i

/-- The table's row for a type, out of the program. -/
def kOf : TypeDesc → TK
  | .bool => .bool
  | .int k => .int k
  | .string => .str
  | .pointer _ => .ptr
  | .slice e => .slice e
  | .struct F => .struct (F.toList.map fun f => (f.offset, f.type))
  | .array n e => .array n e
  | .func _ _ _ => .func
  | _ => .other
def eqOf (P : Program) (t : TypeId) : TypeDesc → Bool
  | .struct F => !P.stoodInHeld t && F.toList.all (fun f => f.name != "_") && !P.eqGuardType P.depth t
  | .array _ _ => !P.eqGuardType P.depth t
  | _ => true
def u8ok (ti : TypeInfo) (zv : Value) : TypeDesc → Bool
  | .int .u8 => ti.size == 1 && ti.bytes == 1 && zv.cells.size == 1
  | _ => true
def tyI (P : Program) (eqs : Bool) (t : TypeId) : Option TyI :=
  match P.info? t, P.underlying t with
  | some ti, some d => match ti.zero with
    | some zv => match ofVs zv.cells.toList with
      | some z => bif u8ok ti zv d then some ⟨kOf d, ti.size, z, eqs && eqOf P t d⟩ else none
      | none => none
    | none => none
  | _, _ => none
theorem ofV1_lo {v : Value} {x : AV} (h : ofV1 v = some x) : lo 0 x = true := by
  unfold ofV1 at h
  split at h <;> first | (cases h; done) | (cases h; rfl)
theorem ofVs_lo : ∀ {vs : List Value} {xs : List AV}, ofVs vs = some xs → loL 0 xs = true
  | [], xs, h => by simp [ofVs] at h; subst h; rfl
  | v :: vs, xs, h => by
    unfold ofVs at h
    split at h
    · rename_i x ys hx hy
      cases h
      simp [loL, ofV1_lo hx, ofVs_lo hy]
    · cases h
theorem tyI_ok {P : Program} {eqs : Bool} {t : TypeId} {i : TyI} (h : tyI P eqs t = some i) : TyOK P t i := by
  unfold tyI at h
  split at h
  · rename_i ti d h1 h2
    split at h
    · rename_i zv hz
      split at h
      · rename_i z hzz
        cases hu : u8ok ti zv d with
        | false => rw [hu] at h; cases h
        | true =>
        rw [hu] at h
        cases h
        refine ⟨⟨ti, h1, rfl, zv, hz, fun B => ofVs_den hzz B, ofVs_lo hzz⟩, ⟨d, h2, ?_, ?_⟩, ?_⟩
        · cases d <;> rfl
        · cases d
          case array n e => exact ⟨rfl, fun h => by simp [eqOf] at h; exact h.2⟩
          case struct F => exact ⟨F, rfl, rfl, fun h => by simp only [eqOf, Bool.and_eq_true, Bool.not_eq_true'] at h; exact ⟨h.2.1.1, h.2.1.2, h.2.2⟩⟩
          all_goals first | exact trivial | exact rfl | exact ⟨_, rfl⟩ | exact ⟨_, _, _, rfl⟩
        · intro hk
          have hd : d = .int .u8 := by cases d <;> simp [kOf] at hk <;> rw [hk]
          subst hd
          simp only [u8ok, Bool.and_eq_true, beq_iff_eq] at hu
          exact ⟨ti, h1, hu.1.1, hu.1.2, zv, hz, hu.2⟩
      · cases h
    · cases h
  · cases h
theorem Tab.at_mem {t : TypeId} {i : TyI} : ∀ {T : Tab}, T.at t = some i → (t, i) ∈ T
  | [], h => by cases h
  | (u, j) :: r, h => by
    unfold Tab.at at h
    cases e : Nat.beq u t with
    | true => rw [e] at h; cases h; rw [Nat.eq_of_beq_eq_true e]; exact List.mem_cons_self
    | false => rw [e] at h; exact List.mem_cons_of_mem _ (Tab.at_mem h)
theorem tabOK_of {P : Program} {T : Tab} (h : T.map (fun p => tyI P p.2.eqok p.1) = T.map fun p => some p.2) : TabOK P T := fun t i hi => by
  have hm := Tab.at_mem hi
  have : ∀ p ∈ T, tyI P p.2.eqok p.1 = some p.2 := by
    intro p hp
    clear hi hm
    induction T with
    | nil => cases hp
    | cons q r ih =>
      simp only [List.map_cons, List.cons.injEq] at h
      rcases List.mem_cons.1 hp with rfl | hp
      · exact h.1
      · exact ih h.2 hp
  exact tyI_ok (this _ hm)

section
variable {P : Program} {T : Tab} (hT : TabOK P T) {B : Nat → Nat} (w : World)
include hT
theorem run_part_den {t : TypeId} {cs : List AV} {off : Nat} {v : AV} (h : partA T t cs off = some v) : (part t (denL B cs).toArray off).run P w = .ok (den B v) w := by
  unfold partA at h
  cases hi : T.at t with
  | none => rw [hi] at h; cases h
  | some i =>
    rw [hi] at h
    obtain ⟨ti, h1, h2, -⟩ := (hT t i hi).info
    obtain ⟨d, h3, h4, -⟩ := (hT t i hi).desc
    have hagg : (isAgg t).run P w = .ok i.k.isAgg w := by
      unfold isAgg
      rw [Sem.run_bind, run_underlying h3 w, ← h4]
      cases d <;> rfl
    have hsz : (sizeOf t).run P w = .ok i.size w := by simp [sizeOf, typeInfo, h1, h2]
    unfold part
    cases hk : i.k.isAgg with
    | true =>
      rw [hk] at hagg
      simp only [hk, cond_true] at h
      cases h
      simp [hagg, hsz, den, denL_map, List.extract_eq_take_drop]
    | false =>
      rw [hk] at hagg
      simp only [hk, cond_false] at h
      have : (denL B cs).toArray[off]? = some (den B v) := by simp [denL_get, h]
      simp [hagg, this]
theorem run_eqFields_den {d : Nat} {xs ys : List AV} {rec : TypeId → AV → AV → Option Bool} (hrec : ∀ t a b r w, rec t a b = some r → (Op.equalIn d t (den B a) (den B b)).run P w = .ok r w) :
    ∀ {F : List Field} {r : Bool}, F.all (fun f => f.name != "_") = true → eqFr T rec xs ys (F.map fun f => (f.offset, f.type)) = some r → (Op.eqFields d (denL B xs).toArray (denL B ys).toArray F).run P w = .ok r w
  | [], r, _, h => by cases h; rfl
  | f :: F, r, hn, h => by
    simp only [List.all_cons, Bool.and_eq_true, bne_iff_ne] at hn
    simp only [List.map_cons, eqFr] at h
    split at h
    · rename_i a b ha hb
      split at h
      · rename_i p q hp hq
        cases h
        simp only [Op.eqFields, if_pos hn.1, Sem.run_bind, run_part_den hT w ha, run_part_den hT w hb, Result.andThen_ok, hrec _ _ _ _ w hp, Sem.run_ite]
        cases p
        · simp
        · simp [run_eqFields_den hrec hn.2 hq]
      · cases h
    · cases h
theorem run_equalIn_den : ∀ {d D : Nat} {t : TypeId} {x y : AV} {r : Bool} (w : World), d ≤ D → eqA T d t x y = some r → (Op.equalIn D t (den B x) (den B y)).run P w = .ok r w
  | 0, _, _, _, _, _, _, _, h => by cases h
  | d + 1, D, t, x, y, r, w, hd, h => by
    obtain ⟨D, rfl⟩ : ∃ E, D = E + 1 := ⟨D - 1, by omega⟩
    unfold eqA at h
    split at h
    · cases h
    · rename_i i hi
      obtain ⟨de, h3, -, h5⟩ := (hT t i hi).desc
      split at h
      · rename_i a b hk
        rw [hk] at h5
        subst h5
        cases h
        exact run_equalIn_bool' w D t a b h3
      · rename_i q k a k' b hk
        rw [hk] at h5
        subst h5
        split at h
        · rename_i e
          subst e
          cases h
          exact run_equalIn_int w D t k q a b h3
        · cases h
      · rename_i a b hk
        rw [hk] at h5
        subst h5
        cases h
        exact run_equalIn_string w D t a b h3
      · rename_i fs xs ys hk
        rw [hk] at h5
        obtain ⟨F, rfl, rfl, h6⟩ := h5
        cases he : i.eqok with
        | false => rw [he] at h; cases h
        | true =>
          rw [he] at h
          obtain ⟨h7, h8, -⟩ := h6 he
          have hF : P.fieldsOf t = F := by simp [Program.fieldsOf, h3]
          simp only [den]
          rw [run_equalIn_struct w D t _ _ (by rw [hF]; exact h3) h7, hF]
          exact run_eqFields_den hT w (fun t a b r w hr => run_equalIn_den w (by omega) hr) h8 h
      · cases h
theorem eqGuard_den {op : BinOp} {t : TypeId} {ox oy : Operand} {x y : AV} {r : Bool} {d : Nat} (h : eqA T d t x y = some r) : (eqGuard op t ox oy (den B x) (den B y)).run P w = .ok () w := by
  cases d with
  | zero => cases h
  | succ d =>
    unfold eqA at h
    split at h
    · cases h
    · rename_i i hi
      obtain ⟨de, h3, -, h5⟩ := (hT t i hi).desc
      split at h
      · rename_i a b hk; simp [den, eqGuard_at_bool]
      · rename_i q k a k' b hk; simp [den, eqGuard_at_int]
      · rename_i a b hk; simp [den, eqGuard_at_string]
      · rename_i fs xs ys hk
        rw [hk] at h5
        obtain ⟨F, rfl, rfl, h6⟩ := h5
        cases he : i.eqok with
        | false => rw [he] at h; cases h
        | true =>
          obtain ⟨-, -, h9⟩ := h6 he
          cases op <;> simp [den, eqGuard, h9]
      · cases h
end
section
variable {P : Program} {T : Tab} {B : Nat → Nat} (w : World)
theorem run_binI {w0 : World} {op : BinOp} {k : IntKind} {a b : Int} {o o' : Orc} {v : AV} {cs : List Cst} (h : binI op k a b o = some (v, o', cs)) (hc : Holds P w0 cs) (h1 : op ≠ .shl) (h2 : op ≠ .shr) (t : TypeId) :
    (binOp op t (.int k a) (.int k b)).run P w = .ok (den B v) w := by
  unfold binI at h
  split at h
  · cases h; simp [binOp_add, Op.intArith, den]
  · cases h; simp [binOp_sub, Op.intArith, den]
  · cases h; simp [binOp_mul, Op.intArith, den]
  · obtain ⟨⟨o2, c⟩, hk, he⟩ := Option.map_eq_some_iff.1 h
    cases he
    have := chk_den hk hc
    simp only [bne_iff_ne] at this
    simp [binOp_quo, Op.intDiv, this, den]
  · obtain ⟨⟨o2, c⟩, hk, he⟩ := Option.map_eq_some_iff.1 h
    cases he
    have := chk_den hk hc
    simp only [bne_iff_ne] at this
    simp [binOp_rem, Op.intDiv, this, den]
  · cases h; simp [binOp_and, intBits_and, den]
  · cases h; simp [binOp_or, intBits_or, den]
  · cases h; simp [binOp_xor, intBits_xor, den]
  · cases h; simp [binOp_andNot, intBits_andNot, den]
  · obtain ⟨c, hk, he⟩ := Option.map_eq_some_iff.1 h
    cases he
    unfold cmpI at hk
    split at hk <;> first | (cases hk; simp [binOp_eql, binOp_neq, binOp_lss, binOp_leq, binOp_gtr, binOp_geq, den]; done) | cases hk
theorem run_binS {w0 : World} {op : BinOp} {a b : ByteArray} {o o' : Orc} {v : AV} {cs : List Cst} (h : binS op a b o = some (v, o', cs)) (hc : Holds P w0 cs) (t : TypeId) :
    (binOp op t (.string a) (.string b)).run P w = .ok (den B v) w := by
  unfold binS at h
  split at h
  · obtain ⟨⟨o2, c⟩, hk, he⟩ := Option.map_eq_some_iff.1 h
    cases he
    have := chk_den hk hc
    simp only [decide_eq_true_eq] at this
    have h2 : ¬ ((a.size + b.size : Nat) : Int) > IntKind.i64.max := Int.not_lt.2 this
    simp only [binOp, Op.stringOp, if_neg h2, den, Sem.run_pure]
  · cases h; simp [binOp, Op.stringOp, den]
  · cases h; simp [binOp, Op.stringOp, den]
  · cases h
theorem eqA_shape {d : Nat} {t : TypeId} {x y : AV} {r : Bool} (h : eqA T d t x y = some r) : (∃ a b, x = .bool a ∧ y = .bool b) ∨ (∃ k a k' b, x = .int k a ∧ y = .int k' b) ∨ (∃ a b, x = .str a ∧ y = .str b) ∨ (∃ a b, x = .agg a ∧ y = .agg b) := by
  cases d with
  | zero => cases h
  | succ d =>
    unfold eqA at h
    split at h
    · cases h
    · split at h
      · exact .inl ⟨_, _, rfl, rfl⟩
      · exact .inr (.inl ⟨_, _, _, _, rfl, rfl⟩)
      · exact .inr (.inr (.inl ⟨_, _, rfl, rfl⟩))
      · exact .inr (.inr (.inr ⟨_, _, rfl, rfl⟩))
      · cases h
theorem run_binA {w0 : World} (hT : TabOK P T) {op : BinOp} {t : TypeId} {x y : AV} {ox oy : Operand} {o o' : Orc} {v : AV} {cs : List Cst} (h : binA T op t x y o = some (v, o', cs)) (hc : Holds P w0 cs) :
    (do eqGuard op t ox oy (den B x) (den B y); binOp op t (den B x) (den B y) : Sem Value).run P w = .ok (den B v) w := by
  unfold binA at h
  split at h
  · rename_i k a k' b
    simp only [den, eqGuard_at_int, pure_bind]
    split at h
    · obtain ⟨⟨o2, c⟩, hk, he⟩ := Option.map_eq_some_iff.1 h
      cases he
      have := chk_den hk hc
      simp only [decide_eq_true_eq] at this
      simp [binOp_shl, shift_shl_any k k' a b this, den]
    · obtain ⟨⟨o2, c⟩, hk, he⟩ := Option.map_eq_some_iff.1 h
      cases he
      have := chk_den hk hc
      simp only [decide_eq_true_eq] at this
      simp [binOp_shr, shift_shr_any k k' a b this, den]
    · rename_i h1 h2
      split at h
      · rename_i e
        subst e
        exact run_binI w h hc (fun e => h1 e) (fun e => h2 e) t
      · cases h
  · rename_i a b
    simp only [den, eqGuard_at_string, pure_bind]
    exact run_binS w h hc t
  · rename_i n1 n2
    split at h
    · obtain ⟨r, hk, he⟩ := Option.map_eq_some_iff.1 h
      cases he
      have h1 := eqGuard_den hT (B := B) w (op := .eql) (ox := ox) (oy := oy) hk
      have h2 := run_equalIn_den hT (B := B) (D := Op.maxDepth) w (by decide) hk
      have h3 : (binOp .eql t (den B x) (den B y)).run P w = .ok (.bool r) w := by
        have : binOp .eql t (den B x) (den B y) = (do pure (.bool (← Op.equal t (den B x) (den B y)))) := by
          rcases eqA_shape hk with ⟨a, b, rfl, rfl⟩ | ⟨k, a, k', b, rfl, rfl⟩ | ⟨a, b, rfl, rfl⟩ | ⟨a, b, rfl, rfl⟩
          · rfl
          · exact (n1 _ _ _ _ rfl rfl).elim
          · exact (n2 _ _ rfl rfl).elim
          · rfl
        rw [this]
        simp [Op.equal, h2]
      rw [Sem.run_bind, h1, Result.andThen_ok, h3]
      rfl
    · obtain ⟨r, hk, he⟩ := Option.map_eq_some_iff.1 h
      cases he
      have h1 := eqGuard_den hT (B := B) w (op := .neq) (ox := ox) (oy := oy) hk
      have h2 := run_equalIn_den hT (B := B) (D := Op.maxDepth) w (by decide) hk
      have h3 : (binOp .neq t (den B x) (den B y)).run P w = .ok (.bool !r) w := by
        have : binOp .neq t (den B x) (den B y) = (do pure (.bool (!(← Op.equal t (den B x) (den B y))))) := by
          rcases eqA_shape hk with ⟨a, b, rfl, rfl⟩ | ⟨k, a, k', b, rfl, rfl⟩ | ⟨a, b, rfl, rfl⟩ | ⟨a, b, rfl, rfl⟩
          · rfl
          · exact (n1 _ _ _ _ rfl rfl).elim
          · exact (n2 _ _ rfl rfl).elim
          · rfl
        rw [this]
        simp [Op.equal, h2]
      rw [Sem.run_bind, h1, Result.andThen_ok, h3]
      rfl
    · cases h
end
end Go.Proofs.YtodgioleaegpfaaDoor.Am
namespace Go.Proofs.YtodgioleaegpfaaDoor.Am
open Go Go.RowKit Go.Proofs.YtodgioleaegpfaaDoorW.PrintWords
set_option linter.unusedVariables false
set_option linter.unusedSimpArgs false

theorem Rel.below {w0 W W' : World} {nin : Nat} {B : Nat → Nat} {mem : Mem} (h : Rel w0 nin B mem W) (hb : Below W.heap.size W W') : Rel w0 nin B mem W' :=
  ⟨hb.os.trans h.os, hb.tape.trans h.tape, hb.output.trans h.output, Nat.le_trans h.size hb.size, fun k hk hi => (hb.block k (by have := h.size; omega)).trans (h.frame k hk hi),
    fun i b hi => blk_below (h.blk i b hi) hb, fun i s e hi => by obtain ⟨cs, fr, h1, h2⟩ := h.byt i s e hi; exact ⟨cs, fr, blk_below h1 hb, h2⟩, h.inj, h.fresh, h.nin_le⟩
theorem Rel.drew {w0 W : World} {nin : Nat} {B : Nat → Nat} {mem : Mem} (h : Rel w0 nin B mem W) : Rel w0 nin B mem { W with drawn := W.drawn + 1 } :=
  h.below ⟨rfl, rfl, rfl, Nat.le_refl _, fun _ _ => rfl⟩
theorem Mem.at_lt {m : Mem} {i : Nat} {b : MB} (h : m.at i = some b) : i < m.length := by
  rw [Mem.at_eq] at h
  cases e : m[i]? with
  | none => rw [e] at h; cases h
  | some x => exact (List.getElem?_eq_some_iff.1 e).1
theorem Mem.blk_lt {m : Mem} {i : Nat} {b : Blk} (h : m.blk i = some b) : i < m.length := Mem.at_lt (Mem.blk_at h)
theorem Rel.old {w0 W : World} {nin : Nat} {B : Nat → Nat} {mem : Mem} (h : Rel w0 nin B mem W) {i : Nat} {b : MB} (hi : mem.at i = some b) : B i < W.heap.size := by
  cases b with
  | exact b => exact blk_lt (h.blk i b (Mem.blk_of hi))
  | bytes s e => obtain ⟨cs, fr, h1, -⟩ := h.byt i s e (Mem.byt_of hi); exact blk_lt h1
theorem Rel.start (w : World) (B : Nat → Nat) : Rel w 0 B [] w :=
  ⟨rfl, rfl, rfl, Nat.le_refl _, fun _ _ _ => rfl, fun i b h => by simp [Mem.blk, Mem.at] at h, fun i s e h => by simp [Mem.byt, Mem.at] at h, fun i j b b' h => by simp [Mem.at] at h, fun i b _ h => by simp [Mem.at] at h, Nat.le_refl _⟩
theorem Rel.end {w0 W : World} {B : Nat → Nat} {mem : Mem} (h : Rel w0 0 B mem W) : Below w0.heap.size w0 W :=
  ⟨h.os, h.tape, h.output, h.size, fun k hk => h.frame k hk (fun i hi => absurd hi (Nat.not_lt_zero i))⟩

theorem take_drop_get {l : List AV} {off n j : Nat} {v : AV} (h : ((l.drop off).take n)[j]? = some v) : l[off + j]? = some v := by
  rw [List.getElem?_take] at h
  split at h
  · rw [List.getElem?_drop] at h; exact h
  · cases h
theorem bytesOf_get : ∀ {l : List AV} {bs : List UInt8}, bytesOf l = some bs → l = bs.map (fun b => AV.int .u8 b.toNat) → True := fun _ _ => trivial

section
variable {P : Program} {T : Tab} (hT : TabOK P T) {B : Nat → Nat}
include hT
theorem run_isAgg_den (w : World) {t : TypeId} {i : TyI} (hi : T.at t = some i) : (isAgg t).run P w = .ok i.k.isAgg w := by
  obtain ⟨d, h3, h4, -⟩ := (hT t i hi).desc
  unfold isAgg
  rw [Sem.run_bind, run_underlying h3 w, ← h4]
  cases d <;> rfl
theorem run_sizeOf_den (w : World) {t : TypeId} {i : TyI} (hi : T.at t = some i) : (sizeOf t).run P w = .ok i.size w := by
  obtain ⟨ti, h1, h2, -⟩ := (hT t i hi).info
  simp [sizeOf, typeInfo, h1, h2]
theorem info_size {t : TypeId} {i : TyI} (hi : T.at t = some i) : (P.info? t).map (·.size) = some i.size := by
  obtain ⟨ti, h1, h2, -⟩ := (hT t i hi).info
  simp [h1, h2]
theorem run_load_den {mem : Mem} {W : World} (hm : ∀ i b, mem.blk i = some b → W.heap[B i]? = some (.cells (denL B b.cells).toArray b.ty (0, 0)))
    {t : TypeId} {id off : Nat} {b : Blk} {i : TyI} (hb : mem.blk id = some b) (hi : T.at t = some i) :
    (i.k.isAgg = true → off + i.size ≤ b.cells.length → (Instr.loadAt t (.pointer (some ⟨B id, off, none⟩))).run P W = .ok (.agg (denL B ((b.cells.drop off).take i.size)).toArray) W) ∧
    (i.k.isAgg = false → ∀ v, b.cells[off]? = some v → (Instr.loadAt t (.pointer (some ⟨B id, off, none⟩))).run P W = .ok (den B v) W) := by
  have hB := hm id b hb
  obtain ⟨d, h3, h4, -⟩ := (hT t i hi).desc
  refine ⟨fun ha hl => ?_, fun ha v hv => ?_⟩
  · refine run_loadAt_mid W (B id) off t _ d ?_ h3 (h4.trans ha) ?_
    · intro j v hv
      rw [cell_of_row W (B id) (off + j) _ _ _ hB]
      rw [denL_get] at hv
      obtain ⟨x, hx, rfl⟩ := Option.map_eq_some_iff.1 hv
      simp [denL_get, take_drop_get hx]
    · rw [info_size hT hi, denL_length]
      simp
      omega
  · have hagg := run_isAgg_den hT W hi
    rw [ha] at hagg
    have hc : W.cell? ⟨B id, off, none⟩ = some (den B v) := by
      rw [cell_of_row W (B id) off _ _ _ hB]
      simp [denL_get, hv]
    simp [Instr.loadAt, Instr.sureAddr, loadVar, hagg, hc]
end
theorem splice_den (B : Nat → Nat) : ∀ (vs cs : List AV) (off : Nat), denL B (splice cs off vs) = (denL B cs).take off ++ ((denL B vs).take (cs.length - off)) ++ (denL B cs).drop (off + vs.length)
  | [], cs, off => by simp [splice, denL]
  | v :: vs, cs, off => by
    simp only [splice, splice_den B vs]
    simp only [denL, denL_map, List.map_set, List.length_set, List.length_cons]
    by_cases h : off < cs.length
    · obtain ⟨m, hm⟩ : ∃ m, cs.length - off = m + 1 := ⟨cs.length - off - 1, by omega⟩
      rw [hm, show cs.length - (off + 1) = m by omega, List.take_succ_cons]
      apply List.ext_getElem?
      intro k
      simp only [List.getElem?_append, List.length_append, List.length_take, List.length_map, List.length_set, List.getElem?_take, List.getElem?_set, List.getElem?_drop, List.getElem?_cons, List.getElem?_map]
      grind
    · rw [show cs.length - (off + 1) = 0 by omega, show cs.length - off = 0 by omega]
      rw [List.set_eq_of_length_le (by simp; omega)]
      simp
      rw [List.take_of_length_le (by simp; omega), List.take_of_length_le (by simp; omega), List.drop_of_length_le (by simp; omega), List.drop_of_length_le (by simp; omega)]
end Go.Proofs.YtodgioleaegpfaaDoor.Am
namespace Go.Proofs.YtodgioleaegpfaaDoor.Am
open Go Go.RowKit Go.Proofs.YtodgioleaegpfaaDoorW.PrintWords
set_option linter.unusedVariables false
set_option linter.unusedSimpArgs false

def upB (B : Nat → Nat) (n g : Nat) : Nat → Nat := fun i => if i = n then g else B i
theorem upB_lt {B : Nat → Nat} {n g i : Nat} (h : i < n) : upB B n g i = B i := by unfold upB; rw [if_neg (by omega)]
theorem upB_at {B : Nat → Nat} {n g : Nat} : upB B n g n = g := by unfold upB; rw [if_pos rfl]
mutual
theorem lo_up {n : Nat} : ∀ {x : AV}, lo n x = true → lo (n + 1) x = true
  | .bool _, _ => rfl
  | .int _ _, _ => rfl
  | .str _, _ => rfl
  | .ptr id _, h => by simp only [lo, Nat.blt_eq] at h ⊢; omega
  | .nilp, _ => rfl
  | .slice id _ _ _, h => by simp only [lo, Nat.blt_eq] at h ⊢; omega
  | .buf id _, h => by simp only [lo, Nat.blt_eq] at h ⊢; omega
  | .nils, _ => rfl
  | .fn _ first captured, h => by simp only [lo, Bool.and_eq_true] at h ⊢; exact ⟨loL_up h.1, loL_up h.2⟩
  | .nilf, _ => rfl
  | .agg cs, h => by simp only [lo] at h ⊢; exact loL_up h
  | .tup vs, h => by simp only [lo] at h ⊢; exact loL_up h
theorem loL_up {n : Nat} : ∀ {l : List AV}, loL n l = true → loL (n + 1) l = true
  | [], _ => rfl
  | x :: xs, h => by simp only [loL, Bool.and_eq_true] at h ⊢; exact ⟨lo_up h.1, loL_up h.2⟩
end
theorem loEnv_tmp {n : Nat} : ∀ {env : Env} {i : Nat} {x : AV}, loEnv n env = true → env.tmp i = some x → lo n x = true
  | [], i, x, _, h => by cases h
  | none :: r, 0, x, _, h => by cases h
  | none :: r, i + 1, x, hl, h => loEnv_tmp (env := r) hl h
  | some y :: r, 0, x, hl, h => by cases h; simp only [loEnv, Bool.and_eq_true] at hl; exact hl.1
  | some y :: r, i + 1, x, hl, h => by simp only [loEnv, Bool.and_eq_true] at hl; exact loEnv_tmp (env := r) hl.2 h
theorem loMem_at {n : Nat} : ∀ {m : Mem} {i : Nat} {b : Blk}, loMem n m = true → m.at i = some (.exact b) → loL n b.cells = true
  | [], i, x, _, h => by cases h
  | none :: r, 0, x, _, h => by cases h
  | none :: r, i + 1, x, hl, h => loMem_at (m := r) hl h
  | some (.exact y) :: r, 0, x, hl, h => by cases h; simp only [loMem, Bool.and_eq_true] at hl; exact hl.1
  | some (.exact y) :: r, i + 1, x, hl, h => by simp only [loMem, Bool.and_eq_true] at hl; exact loMem_at (m := r) hl.2 h
  | some (.bytes s e) :: r, 0, x, hl, h => by cases h
  | some (.bytes s e) :: r, i + 1, x, hl, h => loMem_at (m := r) hl h
theorem loMem_blk {n : Nat} {m : Mem} {i : Nat} {b : Blk} (hl : loMem n m = true) (h : m.blk i = some b) : loL n b.cells = true := loMem_at hl (Mem.blk_at h)
theorem Fits.up {B : Nat → Nat} {env : Env} {a : Act} {n g : Nat} (h : Fits B env a) (hl : loEnv n env = true) : Fits (upB B n g) env a :=
  ⟨h.defers, h.size, fun i x hx => by rw [h.tmp i x hx, den_same (B := B) (B' := upB B n g) (fun i hi => upB_lt hi) x (loEnv_tmp hl hx)]⟩
theorem Mem.at_push (m : Mem) (b : MB) (i : Nat) : Mem.at (m ++ [some b]) i = if i = m.length then some b else m.at i := by
  simp only [Mem.at_eq, List.getElem?_append]
  by_cases h : i < m.length
  · rw [if_pos h, if_neg (by omega)]
  · rw [if_neg h]
    by_cases e : i = m.length
    · subst e; simp
    · rw [if_neg e]
      have h1 : m[i]? = none := List.getElem?_eq_none (by omega)
      have h2 : [some b][i - m.length]? = none := List.getElem?_eq_none (by simp; omega)
      rw [h1, h2]
theorem Mem.at_push0 (m : Mem) (i : Nat) : Mem.at (m ++ [none]) i = m.at i := by
  simp only [Mem.at_eq, List.getElem?_append]
  by_cases h : i < m.length
  · rw [if_pos h]
  · rw [if_neg h]
    have h1 : m[i]? = none := List.getElem?_eq_none (by omega)
    rw [h1]
    by_cases e : i = m.length
    · subst e; simp
    · have h2 : [(none : Option MB)][i - m.length]? = none := List.getElem?_eq_none (by simp; omega)
      rw [h2]
theorem Mem.at_put {m : Mem} {id : Nat} {b0 : MB} (h : m.at id = some b0) (x : Option MB) (i : Nat) : Mem.at (m.set id x) i = if i = id then x else m.at i := by
  have hl := Mem.at_lt h
  simp only [Mem.at_eq, List.getElem?_set]
  by_cases e : id = i
  · subst e; simp [hl]
  · rw [if_neg e, if_neg (fun h => e h.symm)]
/-- A block is added, of whatever kind. -/
theorem Rel.add {w0 W W' : World} {nin : Nat} {B B' : Nat → Nat} {mem : Mem} (hr : Rel w0 nin B mem W) (hm : loMem mem.length mem = true) (b : MB) (hW : W'.os = W.os ∧ W'.tape = W.tape ∧ W'.output = W.output ∧ W.heap.size ≤ W'.heap.size)
    (hold : ∀ k, k < W.heap.size → W'.heap[k]? = W.heap[k]?) (hB : ∀ i, i < mem.length → B' i = B i) (hn : B' mem.length = W.heap.size)
    (hblk : ∀ b', b = .exact b' → W'.heap[W.heap.size]? = some (.cells (denL B' b'.cells).toArray b'.ty (0, 0)))
    (hbyt : ∀ s e, b = .bytes s e → ∃ (cs : Array Value) (fr : Nat × Nat), W'.heap[W.heap.size]? = some (.cells cs e fr) ∧ cs.toList.take s.size = bytesV s ∧ cs.size = B' (mem.length - 1) ∧ s.size ≤ cs.size ∧ ∀ o, o < cs.size → ¬ (fr.1 ≤ o ∧ o < fr.2)) : Rel w0 nin B' (mem ++ [some b]) W' := by
  have hat : ∀ i x, mem.at i = some x → B' i = B i := fun i x hi => hB i (Mem.at_lt hi)
  refine ⟨hW.1.trans hr.os, hW.2.1.trans hr.tape, hW.2.2.1.trans hr.output, Nat.le_trans hr.size hW.2.2.2, ?_, ?_, ?_, ?_, ?_, by have := hr.nin_le; simp; omega⟩
  · intro k hk hi
    rw [hold k (by have := hr.size; omega)]
    exact hr.frame k hk fun i hi' => by have := hi i hi'; rwa [hB i (by have := hr.nin_le; omega)] at this
  · intro i b' hi
    replace hi := Mem.blk_at hi
    rw [Mem.at_push] at hi
    split at hi
    · rename_i e; subst e; rw [hn]; exact hblk b' (Option.some.inj hi)
    · rw [hat i _ hi, denL_same (B := B) hB _ (loMem_at hm hi), hold _ (hr.old hi)]
      exact hr.blk i b' (Mem.blk_of hi)
  · intro i s e hi
    replace hi := Mem.byt_at hi
    rw [Mem.at_push] at hi
    split at hi
    · rename_i e1; subst e1; rw [hn]; exact hbyt s e (Option.some.inj hi)
    · obtain ⟨cs, fr, h1, h2, h3, h4⟩ := hr.byt i s e (Mem.byt_of hi)
      exact ⟨cs, fr, by rw [hat i _ hi, hold _ (hr.old hi)]; exact h1, h2, by rw [hB (i - 1) (by have := Mem.at_lt hi; omega)]; exact h3, h4⟩
  · intro i j b1 b2 hi hj e
    rw [Mem.at_push] at hi hj
    split at hi <;> split at hj
    · rename_i e1 e2; rw [e1, e2]
    · rename_i e1 e2
      rw [e1, hn, hat j b2 hj] at e
      have := hr.old hj; omega
    · rename_i e1 e2
      rw [e2, hn, hat i b1 hi] at e
      have := hr.old hi; omega
    · rw [hat i b1 hi, hat j b2 hj] at e
      exact hr.inj i j b1 b2 hi hj e
  · intro i b' hle hi
    rw [Mem.at_push] at hi
    split at hi
    · rename_i e1; rw [e1, hn]; exact .inl hr.size
    · rw [hat i b' hi]
      rcases hr.fresh i b' hle hi with h | ⟨j, h1, h2⟩
      · exact .inl h
      · exact .inr ⟨j, h1, by rw [hB j (by have := hr.nin_le; omega)]; exact h2⟩
theorem Rel.add0 {w0 W : World} {nin : Nat} {B : Nat → Nat} {mem : Mem} (hr : Rel w0 nin B mem W) : Rel w0 nin B (mem ++ [none]) W := by
  have hb : ∀ i, Mem.blk (mem ++ [none]) i = mem.blk i := fun i => by unfold Mem.blk; rw [Mem.at_push0]
  have hy : ∀ i, Mem.byt (mem ++ [none]) i = mem.byt i := fun i => by unfold Mem.byt; rw [Mem.at_push0]
  exact ⟨hr.os, hr.tape, hr.output, hr.size, hr.frame, fun i b h => hr.blk i b (by rwa [hb] at h), fun i s e h => hr.byt i s e (by rwa [hy] at h), fun i j b b' h h' => hr.inj i j b b' (by rwa [Mem.at_push0] at h) (by rwa [Mem.at_push0] at h'),
    fun i b h1 h2 => hr.fresh i b h1 (by rwa [Mem.at_push0] at h2), by have := hr.nin_le; simp; omega⟩
/-- A block is not known any more. -/
theorem Rel.drop {w0 W : World} {nin : Nat} {B : Nat → Nat} {mem : Mem} (hr : Rel w0 nin B mem W) (id : Nat) : Rel w0 nin B (mem.set id none) W := by
  have hat : ∀ i x, Mem.at (mem.set id none) i = some x → mem.at i = some x ∧ i ≠ id := by
    intro i x h
    rw [Mem.at_eq, List.getElem?_set] at h
    split at h
    · split at h <;> cases h
    · rename_i e; exact ⟨by rw [Mem.at_eq]; exact h, fun e' => e e'.symm⟩
  exact ⟨hr.os, hr.tape, hr.output, hr.size, hr.frame, fun i b h => hr.blk i b (Mem.blk_of (hat i _ (Mem.blk_at h)).1), fun i s e h => hr.byt i s e (Mem.byt_of (hat i _ (Mem.byt_at h)).1),
    fun i j b b' h h' => hr.inj i j b b' (hat i _ h).1 (hat j _ h').1, fun i b h1 h2 => hr.fresh i b h1 (hat i _ h2).1, by simpa using hr.nin_le⟩
/-- A new block. -/
theorem newA_den {w0 W : World} {nin : Nat} {B : Nat → Nat} {s : St} {a : Act} {b : Blk} {n : Nat} {m : Mem} (h : newA s b = some (n, m)) (hf : Fits B s.env a) (hr : Rel w0 nin B s.mem W) :
    n = s.mem.length ∧ Fits (upB B n W.heap.size) s.env a ∧ Rel w0 nin (upB B n W.heap.size) m (W.alloc (.cells (denL B b.cells).toArray b.ty (0, 0))) := by
  unfold newA at h
  cases hcc : (loEnv s.mem.length s.env && loMem s.mem.length s.mem && loL s.mem.length b.cells) with
  | false => rw [hcc] at h; cases h
  | true =>
    rw [hcc] at h
    cases h
    simp only [Bool.and_eq_true] at hcc
    obtain ⟨⟨h1, h2⟩, h3⟩ := hcc
    have hup : ∀ i, i < s.mem.length → upB B s.mem.length W.heap.size i = B i := fun i hi => upB_lt hi
    refine ⟨rfl, hf.up h1, hr.add h2 (.exact b) ⟨rfl, rfl, rfl, by simp⟩ (fun k hk => Below.heap_alloc W _ k hk) hup upB_at ?_ (fun s e h => by cases h)⟩
    intro b' hb'
    cases hb'
    rw [denL_same (B := B) hup _ h3]
    exact blk_new W _
/-- A block is written anew. -/
theorem Rel.put {w0 W : World} {nin : Nat} {B : Nat → Nat} {mem : Mem} (hr : Rel w0 nin B mem W) {id : Nat} {b0 b : Blk} (hb : mem.blk id = some b0) (W' : World)
    (h1 : W'.os = W.os) (h2 : W'.tape = W.tape) (h3 : W'.output = W.output) (h4 : W'.heap.size = W.heap.size) (h5 : ∀ k, k ≠ B id → W'.heap[k]? = W.heap[k]?)
    (h6 : W'.heap[B id]? = some (.cells (denL B b.cells).toArray b.ty (0, 0))) : Rel w0 nin B (mem.set id (some (.exact b))) W' := by
  replace hb := Mem.blk_at hb
  have some_of : ∀ k b', Mem.at (mem.set id (some (.exact b))) k = some b' → ∃ c, mem.at k = some c := by
    intro k b' hk
    rw [Mem.at_put hb] at hk
    split at hk
    · rename_i e1; rw [e1]; exact ⟨_, hb⟩
    · exact ⟨_, hk⟩
  refine ⟨h1.trans hr.os, h2.trans hr.tape, h3.trans hr.output, by rw [h4]; exact hr.size, ?_, ?_, ?_, ?_, ?_, by simpa using hr.nin_le⟩
  · intro k hk hi
    by_cases e : k = B id
    · by_cases hn : id < nin
      · exact absurd e.symm (hi id hn)
      · rcases hr.fresh id _ (by omega) hb with h | ⟨j, hj, hj2⟩
        · omega
        · exact absurd (hj2.trans e.symm) (hi j hj)
    · rw [h5 k e]
      exact hr.frame k hk hi
  · intro i b' hi
    replace hi := Mem.blk_at hi
    rw [Mem.at_put hb] at hi
    split at hi
    · rename_i e; subst e; cases hi; exact h6
    · rename_i e
      rw [h5 (B i) (fun e' => e (hr.inj i id _ _ hi hb e'))]
      exact hr.blk i b' (Mem.blk_of hi)
  · intro i s e hi
    replace hi := Mem.byt_at hi
    rw [Mem.at_put hb] at hi
    split at hi
    · cases hi
    · rename_i e1
      rw [h5 (B i) (fun e' => e1 (hr.inj i id _ _ hi hb e'))]
      exact hr.byt i s e (Mem.byt_of hi)
  · intro i j b1 b2 hi hj e
    obtain ⟨c1, hc1⟩ := some_of i b1 hi
    obtain ⟨c2, hc2⟩ := some_of j b2 hj
    exact hr.inj i j c1 c2 hc1 hc2 e
  · intro i b' hn hi
    obtain ⟨c, hc⟩ := some_of i b' hi
    exact hr.fresh i c hn hc
theorem loMem_none {n : Nat} : ∀ {m : Mem}, loMem n m = true → loMem (n + 1) m = true
  | [], _ => rfl
  | none :: r, h => loMem_none (m := r) h
  | some (.exact b) :: r, h => by
    simp only [loMem, Bool.and_eq_true] at h ⊢
    exact ⟨loL_up h.1, loMem_none h.2⟩
  | some (.bytes s e) :: r, h => loMem_none (m := r) h
theorem loMem_push0 {n : Nat} : ∀ {m : Mem}, loMem n m = true → loMem n (m ++ [none]) = true
  | [], _ => rfl
  | none :: r, h => loMem_push0 (m := r) h
  | some (.exact b) :: r, h => by
    simp only [loMem, List.cons_append, Bool.and_eq_true] at h ⊢
    exact ⟨h.1, loMem_push0 h.2⟩
  | some (.bytes s e) :: r, h => loMem_push0 (m := r) h
theorem loMem_set {n : Nat} : ∀ {m : Mem} (id : Nat), loMem n m = true → loMem n (m.set id none) = true
  | [], _, _ => rfl
  | none :: r, 0, h => h
  | none :: r, id + 1, h => loMem_set (m := r) id h
  | some (.exact b) :: r, 0, h => by simp only [loMem, Bool.and_eq_true] at h; exact h.2
  | some (.exact b) :: r, id + 1, h => by
    simp only [loMem, Bool.and_eq_true] at h
    simp only [List.set_cons_succ, loMem, Bool.and_eq_true]
    exact ⟨h.1, loMem_set id h.2⟩
  | some (.bytes s e) :: r, 0, h => h
  | some (.bytes s e) :: r, id + 1, h => loMem_set (m := r) id h
/-- Two numbers: a capacity, a block. -/
def upB2 (B : Nat → Nat) (n c g : Nat) : Nat → Nat := fun i => if i = n then c else if i = n + 1 then g else B i
theorem upB2_lt {B : Nat → Nat} {n c g i : Nat} (h : i < n) : upB2 B n c g i = B i := by unfold upB2; rw [if_neg (by omega), if_neg (by omega)]
theorem upB2_cap {B : Nat → Nat} {n c g : Nat} : upB2 B n c g n = c := by unfold upB2; rw [if_pos rfl]
theorem upB2_blk {B : Nat → Nat} {n c g : Nat} : upB2 B n c g (n + 1) = g := by unfold upB2; rw [if_neg (by omega), if_pos rfl]
theorem Fits.up2 {B : Nat → Nat} {env : Env} {a : Act} {n c g : Nat} (h : Fits B env a) (hl : loEnv n env = true) : Fits (upB2 B n c g) env a :=
  ⟨h.defers, h.size, fun i x hx => by rw [h.tmp i x hx, den_same (B := B) (B' := upB2 B n c g) (fun i hi => upB2_lt hi) x (loEnv_tmp hl hx)]⟩
/-- The world, the numbers told anew. -/
theorem Rel.rename {w0 W : World} {nin : Nat} {B B' : Nat → Nat} {mem : Mem} (hr : Rel w0 nin B mem W) (hm : loMem mem.length mem = true) (hB : ∀ i, i < mem.length → B' i = B i) : Rel w0 nin B' mem W := by
  have hat : ∀ i x, mem.at i = some x → B' i = B i := fun i x hi => hB i (Mem.at_lt hi)
  refine ⟨hr.os, hr.tape, hr.output, hr.size, fun k hk hi => hr.frame k hk fun i hi' => by have := hi i hi'; rwa [hB i (by have := hr.nin_le; omega)] at this, ?_, ?_, ?_, ?_, hr.nin_le⟩
  · intro i b hi
    rw [hat i _ (Mem.blk_at hi), denL_same (B := B) hB _ (loMem_blk hm hi)]
    exact hr.blk i b hi
  · intro i s e hi
    obtain ⟨cs, fr, h1, h2, h3, h4⟩ := hr.byt i s e hi
    have := Mem.at_lt (Mem.byt_at hi)
    exact ⟨cs, fr, by rw [hat i _ (Mem.byt_at hi)]; exact h1, h2, by rw [hB (i - 1) (by omega)]; exact h3, h4⟩
  · intro i j b b' hi hj e
    rw [hat i b hi, hat j b' hj] at e
    exact hr.inj i j b b' hi hj e
  · intro i b hle hi
    rw [hat i b hi]
    rcases hr.fresh i b hle hi with h | ⟨j, h1, h2⟩
    · exact .inl h
    · exact .inr ⟨j, h1, by rw [hB j (by have := hr.nin_le; omega)]; exact h2⟩
/-- A new block of bytes. -/
theorem newBytes_new {w0 W W' : World} {nin : Nat} {B : Nat → Nat} {mem : Mem} (hr : Rel w0 nin B mem W) (hm : loMem mem.length mem = true) (z : ByteArray) (e : TypeId) (cap : Nat)
    (hW : W'.os = W.os ∧ W'.tape = W.tape ∧ W'.output = W.output ∧ W.heap.size ≤ W'.heap.size) (hold : ∀ k, k < W.heap.size → W'.heap[k]? = W.heap[k]?)
    (hbyt : ∃ (cs : Array Value) (fr : Nat × Nat), W'.heap[W.heap.size]? = some (.cells cs e fr) ∧ cs.toList.take z.size = bytesV z ∧ cs.size = cap ∧ z.size ≤ cs.size ∧ ∀ o, o < cs.size → ¬ (fr.1 ≤ o ∧ o < fr.2)) :
    Rel w0 nin (upB2 B mem.length cap W.heap.size) (mem ++ [none, some (.bytes z e)]) W' := by
  have h0 : Rel w0 nin (upB2 B mem.length cap W.heap.size) (mem ++ [none]) W := (hr.rename hm fun i hi => upB2_lt hi).add0
  have hl : (mem ++ [(none : Option MB)]).length = mem.length + 1 := by simp
  have h1 := h0.add (W' := W') (B' := upB2 B mem.length cap W.heap.size) (by rw [hl]; exact loMem_none (loMem_push0 hm)) (.bytes z e) hW hold (fun _ _ => rfl) (by rw [hl]; exact upB2_blk) (fun b' h => by cases h)
    (fun s e' h => by
      cases h
      obtain ⟨cs, fr, g1, g2, g3, g4⟩ := hbyt
      exact ⟨cs, fr, g1, g2, by rw [hl, Nat.add_sub_cancel, upB2_cap]; exact g3, g4⟩)
  rwa [List.append_assoc] at h1
end Go.Proofs.YtodgioleaegpfaaDoor.Am
namespace Go.Proofs.YtodgioleaegpfaaDoor.Am
open Go Go.RowKit Go.Proofs.YtodgioleaegpfaaDoorW.PrintWords
set_option linter.unusedVariables false
set_option linter.unusedSimpArgs false

theorem sizesA_den {P : Program} {T : Tab} (hT : TabOK P T) : ∀ {F : List Field} {pl : List (Nat × Nat)}, sizesA T (F.map fun f => (f.offset, f.type)) = some pl →
    F.mapM (fun f => (P.info? f.type).map fun i => (f.offset, i.size)) = some pl
  | [], pl, h => by cases h; rfl
  | f :: F, pl, h => by
    simp only [List.map_cons, sizesA] at h
    split at h
    · rename_i i r hi hr
      cases h
      obtain ⟨ti, h1, h2, -⟩ := (hT _ _ hi).info
      simp [List.mapM_cons, sizesA_den hT hr, h1, h2]
    · cases h
theorem splice_fold (B : Nat → Nat) (vs : List AV) : ∀ (cs : List AV) (off k : Nat), (((denL B vs).zipIdx k).foldl (fun cs (p : Value × Nat) => cs.setIfInBounds (off + p.2) p.1) (denL B cs).toArray) = (denL B (splice cs (off + k) vs)).toArray := by
  induction vs with
  | nil => intro cs off k; rfl
  | cons v vs ih =>
    intro cs off k
    simp only [denL, List.zipIdx_cons, List.foldl_cons, splice]
    have : (denL B cs).toArray.setIfInBounds (off + k) (den B v) = (denL B (cs.set (off + k) v)).toArray := by simp [denL_map, List.map_set]
    rw [this, ih (cs.set (off + k) v) off (k + 1)]
    rfl
theorem cellsA_den (B : Nat → Nat) (v : AV) : (den B v).cells = (denL B (cellsA v)).toArray := by
  cases v <;> simp [den, Value.cells, cellsA, denL]
theorem splice_length : ∀ (vs cs : List AV) (off : Nat), (splice cs off vs).length = cs.length
  | [], cs, off => rfl
  | v :: vs, cs, off => by rw [splice, splice_length vs]; simp
theorem fillA_den (B : Nat → Nat) {place : Nat → Option (Nat × Nat)} : ∀ {ps : List (Nat × AV)} {cs cs' : List AV}, fillA place cs ps = some cs' →
    Instr.fill place (denL B cs).toArray (ps.map fun p => (p.1, den B p.2)) = some (denL B cs').toArray
  | [], cs, cs', h => by cases h; rfl
  | (i, v) :: ps, cs, cs', h => by
    simp only [fillA] at h
    split at h
    · cases h
    · rename_i off size hp
      cases hb : (Nat.beq (cellsA v).length size && Nat.ble (off + size) cs.length) with
      | false => rw [hb] at h; cases h
      | true =>
        rw [hb] at h
        simp only [Bool.and_eq_true, Nat.beq_eq, Nat.ble_eq] at hb
        simp only [List.map_cons, Instr.fill, hp, cellsA_den]
        have h1 : ((denL B (cellsA v)).toArray.size ≠ size || off + (denL B (cellsA v)).toArray.size > (denL B cs).toArray.size) = false := by
          simp [denL_length]; omega
        rw [h1]
        simp only [Bool.false_eq_true, if_false]
        have h2 : (denL B (cellsA v)).toArray.zipIdx.foldl (fun cs (x : Value × Nat) => cs.setIfInBounds (off + x.2) x.1) (denL B cs).toArray = (denL B (splice cs off (cellsA v))).toArray := by
          have := splice_fold B (cellsA v) cs off 0
          simp only [Nat.add_zero] at this
          rw [← this, ← Array.foldl_toList]
          simp
        have h3 := fillA_den B h
        rw [← h2] at h3
        exact h3
theorem oneL_den (B : Nat → Nat) : ∀ {l : List AV}, oneL l = true → ∀ v ∈ denL B l, v.oneCell' = true
  | [], _, v, hv => by cases hv
  | x :: xs, h, v, hv => by
    simp only [oneL, Bool.and_eq_true] at h
    simp only [denL, List.mem_cons] at hv
    rcases hv with rfl | hv
    · cases x <;> first | rfl | simp [oneA] at h
    · exact oneL_den B h.2 v hv

section
variable {P : Program} {T : Tab} (hT : TabOK P T) {B : Nat → Nat} {env : Env} {mem : Mem} {a : Act} {W : World} {q : Oper} {o o' : Orc} {v : AV} {cs : List Cst}
include hT
theorem build_den {t : TypeId} {ps : Array (Nat × Operand)} (hf : Fits B env a) (hq : q.op = .build t ps) (h : pureA T env mem (.build t ps) o = some (v, o', cs)) : (execOp a.eval q).run P W = .ok (.value (den B v)) W := by
  simp only [pureA] at h
  split at h
  · rename_i vs hvs
    obtain ⟨w, hw, he⟩ := Option.map_eq_some_iff.1 h
    cases he
    have hps := evps_den hf hvs
    have hb : P.built t (ps.map fun (i, x) => (i, a.eval x)).toList = some (cellsA v |> denL B).toArray ∧ v = .agg (cellsA v) := by
      unfold buildA at hw
      split at hw
      · cases hw
      · rename_i i hi
        obtain ⟨ti, h1, h2, zv, h3, h4, -⟩ := (hT t i hi).info
        obtain ⟨d, h5, -, h6⟩ := (hT t i hi).desc
        have hz : zv.cells = (denL B i.zero).toArray := by rw [h4 B]
        have hl : (ps.map fun (i, x) => (i, a.eval x)).toList = vs.map fun p => (p.1, den B p.2) := by rw [← hps]; simp
        split at hw
        · rename_i fs hk
          rw [hk] at h6
          obtain ⟨F, rfl, rfl, -⟩ := h6
          split at hw
          · rename_i pl hpl
            obtain ⟨cs', hcs, rfl⟩ := Option.map_eq_some_iff.1 hw
            refine ⟨?_, rfl⟩
            have := fillA_den B hcs
            simp only [Program.built, h1, h5, h3, sizesA_den hT hpl, hz, hl, cellsA]
            simpa using this
          · cases hw
        · rename_i n e hk
          rw [hk] at h6
          obtain ⟨rfl, -⟩ := h6
          split at hw
          · rename_i j hj
            obtain ⟨cs', hcs, rfl⟩ := Option.map_eq_some_iff.1 hw
            refine ⟨?_, rfl⟩
            obtain ⟨te, e1, e2, -⟩ := (hT e j hj).info
            have := fillA_den B hcs
            simp only [Program.built, h1, h5, h3, e1, hz, hl, cellsA, e2]
            exact this
          · cases hw
        · cases hw
    obtain ⟨hb1, hb2⟩ := hb
    have := run_build (P := P) W t _ _ hb1
    rw [hb2, den]
    simp only [execOp, hq]
    simp [this]
  · cases h
end
end Go.Proofs.YtodgioleaegpfaaDoor.Am
namespace Go.Proofs.YtodgioleaegpfaaDoor.Am
open Go Go.RowKit Go.Proofs.YtodgioleaegpfaaDoorW.PrintWords
set_option linter.unusedVariables false
set_option linter.unusedSimpArgs false
/-- The memory is as told. -/
structure MemOK (B : Nat → Nat) (mem : Mem) (W : World) : Prop where
  blk : ∀ i b, mem.blk i = some b → W.heap[B i]? = some (.cells (denL B b.cells).toArray b.ty (0, 0))
  byt : ∀ i s e, mem.byt i = some (s, e) → ∃ (cs : Array Value) (fr : Nat × Nat), W.heap[B i]? = some (.cells cs e fr) ∧ cs.toList.take s.size = bytesV s ∧ cs.size = B (i - 1) ∧ s.size ≤ cs.size ∧ ∀ o, o < cs.size → ¬ (fr.1 ≤ o ∧ o < fr.2)
theorem Rel.mem {w0 W : World} {nin : Nat} {B : Nat → Nat} {mem : Mem} (h : Rel w0 nin B mem W) : MemOK B mem W := ⟨h.blk, h.byt⟩
theorem bytesV_get {s : ByteArray} {i : Nat} (h : i < s.size) : (bytesV s)[i]? = some (.int .u8 (bt s (i : Int))) := by
  have h1 : i < s.data.toList.length := by simpa using h
  have h2 := bt_at s (i : Int) (by simpa using h)
  simp only [Int.toNat_natCast] at h2
  rw [← h2]
  simp [bytesV, List.getElem?_map, List.getElem?_eq_getElem h1]
  rfl
theorem bytesV_length (s : ByteArray) : (bytesV s).length = s.size := by simp [bytesV]
theorem byt_cell {B : Nat → Nat} {W : World} {g : Nat} {cs : Array Value} {e : TypeId} {fr : Nat × Nat} {s : ByteArray} (h1 : W.heap[g]? = some (.cells cs e fr)) (h2 : cs.toList.take s.size = bytesV s) {i : Nat} (hi : i < s.size) : W.cell? ⟨g, i, none⟩ = some (.int .u8 (bt s (i : Int))) := by
  rw [cell_of_row W g i cs e fr h1, ← bytesV_get hi, ← h2, List.getElem?_take, if_pos hi]
  simp
def KDesc (k : TK) (d : TypeDesc) : Prop := match k with
    | .bool => d = .bool
    | .int k => d = .int k
    | .str => d = .string
    | .ptr => ∃ e, d = .pointer e
    | .slice e => d = .slice e
    | .struct fs => ∃ F : Array Field, d = .struct F ∧ F.toList.map (fun f => (f.offset, f.type)) = fs
    | .array n e => d = .array n e
    | .func => ∃ a b c, d = .func a b c
    | .other => True
section
variable {P : Program} {T : Tab} (hT : TabOK P T)
include hT
theorem kind_desc {t : TypeId} {k : TK} (h : T.kind t = some k) : ∃ i d, T.at t = some i ∧ i.k = k ∧ P.underlying t = some d ∧ KDesc k d := by
  unfold Tab.kind at h
  cases hi : T.at t with
  | none => rw [hi] at h; cases h
  | some i =>
    rw [hi] at h
    obtain rfl := Option.some.inj h
    obtain ⟨d, h3, -, h5⟩ := (hT _ _ hi).desc
    refine ⟨i, d, rfl, rfl, h3, ?_⟩
    generalize i.k = k at h5 ⊢
    cases k <;> first | exact h5 | exact h5.1 | skip
    obtain ⟨F, h6, h7, -⟩ := h5
    exact ⟨F, h6, h7⟩
theorem kind_str {t : TypeId} (h : T.kind t = some .str) : P.underlying t = some .string := by
  obtain ⟨i, d, -, -, h3, h4⟩ := kind_desc hT h; rw [h3, h4]
theorem kind_int {t : TypeId} {k : IntKind} (h : T.kind t = some (.int k)) : P.underlying t = some (.int k) := by
  obtain ⟨i, d, -, -, h3, h4⟩ := kind_desc hT h; rw [h3, h4]
theorem kind_slice {t e : TypeId} (h : T.kind t = some (.slice e)) : P.underlying t = some (.slice e) := by
  obtain ⟨i, d, -, -, h3, h4⟩ := kind_desc hT h; rw [h3, h4]
theorem kind_array {t e : TypeId} {n : Nat} (h : T.kind t = some (.array n e)) : P.underlying t = some (.array n e) := by
  obtain ⟨i, d, -, -, h3, h4⟩ := kind_desc hT h; rw [h3, h4]
theorem kind_struct {t : TypeId} {fs : List (Nat × TypeId)} (h : T.kind t = some (.struct fs)) {f fo : Nat} {ft : TypeId} (hf : fs[f]? = some (fo, ft)) : ∃ (F : Array Field) (x : Field), P.underlying t = some (.struct F) ∧ F[f]? = some x ∧ x.offset = fo ∧ x.type = ft := by
  obtain ⟨i, d, -, -, h3, F, rfl, rfl⟩ := kind_desc hT h
  rw [List.getElem?_map] at hf
  obtain ⟨x, hx, he⟩ := Option.map_eq_some_iff.1 hf
  cases he
  exact ⟨F, x, h3, by simpa using hx, rfl, rfl⟩
end
theorem run_bytesLoop {P : Program} (W : World) (f : Value → ByteArray → Sem (ForInStep ByteArray)) (hf : ∀ n s, f (.int .u8 n) s = pure (ForInStep.yield (s.push (UInt8.ofNat n.toNat)))) : ∀ {cs : List AV} {l : List UInt8} {B : Nat → Nat} (acc : ByteArray), bytesOf cs = some l →
    (forIn (denL B cs) acc f).run P W = .ok (⟨acc.data ++ l.toArray⟩) W
  | [], l, B, acc, h => by cases h; simp [denL]
  | c :: cs, l, B, acc, h => by
    unfold bytesOf at h
    split at h
    · rename_i he; cases he
    · rename_i n r he
      cases he
      obtain ⟨m, hm, rfl⟩ := Option.map_eq_some_iff.1 h
      have ih := run_bytesLoop (P := P) W f hf (B := B) (acc.push (UInt8.ofNat n.toNat)) hm
      simp only [denL, den, List.forIn_cons, hf]
      simp only [Sem.run_bind, Sem.run_pure, Result.andThen_ok]
      rw [ih]
      simp [ByteArray.push]
    · cases h
theorem take_extract (z : ByteArray) (n : Nat) : (⟨(z.data.toList.take n).toArray⟩ : ByteArray) = z.extract 0 n := by
  apply ByteArray.ext
  apply Array.toList_inj.1
  simp [ByteArray.data_extract, Array.toList_extract]
def bytesA (s : ByteArray) : List AV := s.data.toList.map fun b => .int .u8 (b.toNat : Int)
theorem bytesOf_list : ∀ l : List UInt8, bytesOf (l.map fun b => .int .u8 (b.toNat : Int)) = some l
  | [] => rfl
  | b :: l => by simp [bytesOf, bytesOf_list l]
theorem bytesOf_bytesA (s : ByteArray) : bytesOf (bytesA s) = some s.data.toList := bytesOf_list _
section
variable {P : Program} {T : Tab} (hT : TabOK P T) {B : Nat → Nat} {env : Env} {mem : Mem} {a : Act} {W : World} {q : Oper} {o o' : Orc} {v : AV} {cs : List Cst}
include hT
theorem load_den {w0 : World} {t : TypeId} {x : Operand} (hc : Holds P w0 cs) (hf : Fits B env a) (hm : MemOK B mem W) (hq : q.op = .load t x) (h : pureA T env mem (.load t x) o = some (v, o', cs)) : (execOp a.eval q).run P W = .ok (.value (den B v)) W := by
  simp only [pureA] at h
  split at h
  · rename_i id off hx
    split at h
    · rename_i b i hb hi
      have hl := run_load_den hT hm.blk (off := off) hb hi
      simp only [execOp, hq, ev_den hf hx, den]
      cases hk : i.k.isAgg with
      | true =>
        rw [hk] at h
        simp only [cond_true] at h
        cases hle : Nat.ble (off + i.size) b.cells.length with
        | false => rw [hle] at h; cases h
        | true =>
          rw [hle] at h
          cases h
          have := hl.1 hk (Nat.le_of_ble_eq_true hle)
          simp [this, den]
      | false =>
        rw [hk] at h
        simp only [cond_false] at h
        obtain ⟨w, hw, he⟩ := Option.map_eq_some_iff.1 h
        cases he
        simp [hl.2 hk v hw]
    · rename_i i hb hi
      split at h
      · rename_i s e hs hk
        obtain ⟨⟨o2, c⟩, hch, he⟩ := Option.map_eq_some_iff.1 h
        cases he
        have hlt := chk_den hch hc
        simp only [decide_eq_true_eq] at hlt
        obtain ⟨cs', fr, g1, g2, -⟩ := hm.byt id s e hs
        have hagg := run_isAgg_den hT W hi
        rw [hk] at hagg
        have hcell := byt_cell (B := B) g1 g2 hlt
        simp only [execOp, hq, ev_den hf hx, den]
        simp [Instr.loadAt, Instr.sureAddr, loadVar, hagg, TK.isAgg, hcell]
      · cases h
    · cases h
  · cases h
theorem field_den {t : TypeId} {x : Operand} {f : Nat} (hf : Fits B env a) (hq : q.op = .field t x f) (h : pureA T env mem (.field t x f) o = some (v, o', cs)) : (execOp a.eval q).run P W = .ok (.value (den B v)) W := by
  simp only [pureA] at h
  split at h
  · rename_i fs cs' hk hx
    split at h
    · rename_i fo ft hfs
      split at h
      · rename_i i hi
        cases hle : Nat.ble (fo + i.size) cs'.length with
        | false => rw [hle] at h; cases h
        | true =>
          rw [hle] at h
          obtain ⟨w, hw, he⟩ := Option.map_eq_some_iff.1 h
          cases he
          obtain ⟨F, x, h1, h2, rfl, rfl⟩ := kind_struct hT hk hfs
          simp only [execOp, hq, ev_den hf hx, den]
          simp [Instr.field, run_underlying h1, h2, asAgg, run_part_den hT W hw]
      · cases h
    · cases h
  · cases h
theorem fieldAddr_den {s : TypeId} {x : Operand} {f : Nat} (hf : Fits B env a) (hq : q.op = .fieldAddr s x f) (h : pureA T env mem (.fieldAddr s x f) o = some (v, o', cs)) : (execOp a.eval q).run P W = .ok (.value (den B v)) W := by
  simp only [pureA] at h
  split at h
  · rename_i fs id off hk hx
    split at h
    · rename_i fo ft hfs
      split at h
      · rename_i i hi
        cases hb : Nat.beq i.size 0 with
        | true => rw [hb] at h; cases h
        | false =>
          rw [hb] at h
          cases h
          obtain ⟨F, x, h1, h2, rfl, rfl⟩ := kind_struct hT hk hfs
          have hne : i.size ≠ 0 := by intro e; rw [e] at hb; cases hb
          simp only [execOp, hq, ev_den hf hx, den]
          simp [Instr.fieldAt, run_underlying h1, h2, Instr.sureAddr, fieldPlace, run_sizeOf_den hT W hi, hne, Addr.add_mid]
      · cases h
    · cases h
  · cases h
theorem indexAddr_den {w0 : World} {t : TypeId} {x y : Operand} (hc : Holds P w0 cs) (hf : Fits B env a) (hq : q.op = .indexAddr t x y) (h : pureA T env mem (.indexAddr t x y) o = some (v, o', cs)) : (execOp a.eval q).run P W = .ok (.value (den B v)) W := by
  simp only [pureA] at h
  split at h
  · rename_i e id off len cap k i hk hx hy
    split at h
    · rename_i j o2 c hj hch
      cases h
      have hi := chk_den hch hc
      simp only [decide_eq_true_eq] at hi
      simp only [execOp, hq, ev_den hf hx, ev_den hf hy, den]
      simp [Instr.indexAt, run_underlying (kind_slice hT hk), asIntOf, hi, run_sizeOf_den hT W hj, Addr.add_mid]
    · cases h
  · rename_i e id len k i hk hx hy
    split at h
    · rename_i j o2 c hj hch
      cases h
      have hi := chk_den hch hc
      simp only [decide_eq_true_eq] at hi
      simp only [execOp, hq, ev_den hf hx, ev_den hf hy, den]
      simp [Instr.indexAt, run_underlying (kind_slice hT hk), asIntOf, hi, run_sizeOf_den hT W hj, Addr.add_mid]
    · cases h
  · rename_i n e id off k i hk hx hy
    split at h
    · rename_i j o2 c hj hch
      cases h
      have hi := chk_den hch hc
      simp only [decide_eq_true_eq] at hi
      simp only [execOp, hq, ev_den hf hx, ev_den hf hy, den]
      simp [Instr.indexAt, run_underlying (kind_array hT hk), Instr.sureAddr, asIntOf, hi, run_sizeOf_den hT W hj, Addr.add_mid]
    · cases h
  · cases h
theorem index_den {w0 : World} {t : TypeId} {x y : Operand} (hc : Holds P w0 cs) (hf : Fits B env a) (hq : q.op = .index t x y) (h : pureA T env mem (.index t x y) o = some (v, o', cs)) : (execOp a.eval q).run P W = .ok (.value (den B v)) W := by
  simp only [pureA] at h
  split at h
  · rename_i s k i hk hx hy
    obtain ⟨⟨o2, c⟩, hch, he⟩ := Option.map_eq_some_iff.1 h
    cases he
    have hi := chk_den hch hc
    simp only [decide_eq_true_eq] at hi
    simp only [execOp, hq, ev_den hf hx, ev_den hf hy, den]
    have := run_index_string (P := P) W t s k i (kind_str hT hk)
    rw [dif_pos hi] at this
    rw [bt_at] at this
    simp [this]
  · rename_i n e cs' k i hk hx hy
    split at h
    · rename_i j o2 c hj hch
      obtain ⟨u, hu, he⟩ := Option.map_eq_some_iff.1 h
      cases he
      have hi := chk_den hch hc
      simp only [decide_eq_true_eq] at hi
      have hp := run_part_den hT (B := B) W hu
      simp only [execOp, hq, ev_den hf hx, ev_den hf hy, den]
      simp [Instr.index, run_underlying (kind_array hT hk), asIntOf, hi, run_sizeOf_den hT W hj, hp]
    · cases h
  · cases h
theorem slice_den {w0 : World} {t : TypeId} {x : Operand} {l h' : Option Operand} (hc : Holds P w0 cs) (hm : MemOK B mem W) (hf : Fits B env a) (hq : q.op = .slice t x l h' none) (h : pureA T env mem (.slice t x l h' none) o = some (v, o', cs)) : (execOp a.eval q).run P W = .ok (.value (den B v)) W := by
  simp only [pureA] at h
  split at h
  · rename_i s hk hx
    split at h
    · rename_i i j hi hj
      split at h
      · rename_i o1 c1 h1
        split at h
        rotate_left
        · cases h
        rename_i o2 c2 h2
        cases h
        have hJ := chk_den h1 (fun c hc' => hc c (List.mem_append_left _ hc'))
        have hI := chk_den h2 (fun c hc' => hc c (List.mem_append_right _ hc'))
        simp only [decide_eq_true_eq] at hJ hI
        simp only [execOp, hq, ev_den hf hx, den]
        have hu := kind_str hT hk
        have hlow : l = none ∧ i = 0 ∨ ∃ y k, l = some y ∧ a.eval y = .int k i := by
          cases l with
          | none => exact .inl ⟨rfl, by simpa using hi.symm⟩
          | some y =>
            right
            simp only at hi
            split at hi
            · rename_i k n hy
              cases hi
              exact ⟨y, k, rfl, by rw [ev_den hf hy]; rfl⟩
            · cases hi
        have hhigh : h' = none ∧ j = (s.size : Int) ∨ ∃ y k, h' = some y ∧ a.eval y = .int k j := by
          cases h' with
          | none => exact .inl ⟨rfl, by simpa using hj.symm⟩
          | some y =>
            right
            simp only at hj
            split at hj
            · rename_i k n hy
              cases hj
              exact ⟨y, k, rfl, by rw [ev_den hf hy]; rfl⟩
            · cases hj
        have hjn : ((j.toNat : Nat) : Int) = j := by omega
        rcases hlow with ⟨rfl, rfl⟩ | ⟨y, k, rfl, hy⟩ <;> rcases hhigh with ⟨rfl, rfl⟩ | ⟨z, k', rfl, hz⟩
        · simp [Instr.sliceAt, run_underlying hu, Instr.slice, Instr.sliceBounds, den]
        · simp [Instr.sliceAt, run_underlying hu, Instr.slice, Instr.sliceBounds, Instr.sliceBound, asIntOf, hz, hJ, den]
        · have : i ≤ (s.size : Int) := hI.2
          simp [Instr.sliceAt, run_underlying hu, Instr.slice, Instr.sliceBounds, Instr.sliceBound, asIntOf, hy, hI, den]
        · simp [Instr.sliceAt, run_underlying hu, Instr.slice, Instr.sliceBounds, Instr.sliceBound, asIntOf, hy, hz, hJ, hI, hjn, den]
      · cases h
    · cases h
  · rename_i e id len hk hx
    split at h
    · rename_i y z e' ji hby hji
      split at h
      · rename_i k j hy
        obtain ⟨⟨o2, c⟩, hch, he⟩ := Option.map_eq_some_iff.1 h
        cases he
        have hj := chk_den hch hc
        simp only [decide_eq_true_eq] at hj
        obtain ⟨cs', fr, g1, g2, g3, g4, -⟩ := hm.byt id z e' hby
        have hsz := run_sizeOf_den (P := P) hT W hji
        have hjn : ((j.toNat : Nat) : Int) = j := by omega
        have hjc : j ≤ ((B (id - 1) : Nat) : Int) := by omega
        simp only [execOp, hq, ev_den hf hx, den]
        simp [Instr.sliceAt, run_underlying (kind_slice hT hk), Instr.slice, Instr.sliceBounds, Instr.sliceBound, asIntOf, ev_den hf hy, den, hj, hjc, hsz, Addr.add_mid]
      · cases h
    · cases h
  · cases h
theorem convert_den {w0 : World} {s d : TypeId} {x : Operand} (hc : Holds P w0 cs) (hf : Fits B env a) (hm : MemOK B mem W) (hq : q.op = .convert s d x) (h : pureA T env mem (.convert s d x) o = some (v, o', cs)) : (execOp a.eval q).run P W = .ok (.value (den B v)) W := by
  simp only [pureA] at h
  split at h
  · rename_i k1 k k2 n hs hd hx
    cases h
    simp only [execOp, hq, ev_den hf hx, den]
    simp [convert, run_underlying (kind_int hT hs), run_underlying (kind_int hT hd), Conv.intToInt, den]
  · rename_i z hs hd hx
    cases h
    simp only [execOp, hq, ev_den hf hx, den]
    simp [convert, run_underlying (kind_str hT hs), run_underlying (kind_str hT hd), den]
  · rename_i e hs hd hx
    split at h
    · rename_i he
      cases h
      simp only [execOp, hq, ev_den hf hx, den]
      simp [convert, run_underlying (kind_slice hT hs), run_underlying (kind_str hT hd), run_underlying (kind_int hT he), Conv.bytesToString, den]
      rfl
    · cases h
  · rename_i e id off len cap hs hd hx
    split at h
    · rename_i b he hb
      cases hle : Nat.ble (off + len) b.cells.length with
      | false => rw [hle] at h; cases h
      | true =>
        rw [hle] at h
        have hle := Nat.le_of_ble_eq_true hle
        obtain ⟨l, hl, he'⟩ := Option.map_eq_some_iff.1 h
        cases he'
        simp only [execOp, hq, ev_den hf hx, den]
        have hB := hm.blk id b hb
        have hcells : (loadCells ⟨B id, off, none⟩ len).run P W = .ok (denL B ((b.cells.drop off).take len)).toArray W := by
          have := run_loadCells_list (P := P) W ⟨B id, off, none⟩ (denL B ((b.cells.drop off).take len)) (fun j v hv => by
            rw [Addr.add_mid, cell_of_row W (B id) (off + j) _ _ _ hB]
            rw [denL_get] at hv
            obtain ⟨x, hx, rfl⟩ := Option.map_eq_some_iff.1 hv
            simp [denL_get, take_drop_get hx])
          rw [denL_length] at this
          simpa [show min len (b.cells.length - off) = len by omega] using this
        simp only [convert, Sem.run_bind, run_underlying (kind_slice hT hs), run_underlying (kind_str hT hd), run_underlying (kind_int hT he), Result.andThen_ok, Conv.bytesToString, hcells]
        rw [List.forIn_toArray, run_bytesLoop W _ (fun n s => rfl) ByteArray.empty hl]
        simp
    · cases h
  · rename_i e id len hs hd hx
    split at h
    · rename_i z e' he hby
      obtain ⟨⟨o2, c⟩, hch, hE⟩ := Option.map_eq_some_iff.1 h
      cases hE
      have hle := chk_den hch hc
      simp only [decide_eq_true_eq] at hle
      obtain ⟨cs', fr, g1, g2, g3, g4, -⟩ := hm.byt id z e' hby
      simp only [execOp, hq, ev_den hf hx, den]
      have hcells : (loadCells ⟨B id, 0, none⟩ len).run P W = .ok (bytesV (z.extract 0 len)).toArray W := by
        have := run_loadCells_list (P := P) W ⟨B id, 0, none⟩ (bytesV (z.extract 0 len)) (fun j v hv => by
          have hj : j < (z.extract 0 len).size := by rw [← bytesV_length]; exact (List.getElem?_eq_some_iff.1 hv).1
          have hj2 : j < len := by rw [ByteArray.size_extract] at hj; omega
          rw [bytesV_get hj] at hv
          rw [Addr.add_mid, Nat.zero_add, byt_cell (B := B) g1 g2 (show j < z.size by omega), ← hv]
          congr 2
          rw [← bt_at z (j : Int) (by simp; omega), ← bt_at (z.extract 0 len) (j : Int) (by simpa using hj)]
          simp [ByteArray.getElem_eq_getElem_data])
        rw [bytesV_length] at this
        rw [ByteArray.size_extract] at this
        simpa [show min len z.size - 0 = len by omega] using this
      have hden : bytesV (z.extract 0 len) = denL B (bytesA (z.extract 0 len)) := by simp [bytesV, bytesA, denL_map, den, Function.comp_def]
      simp only [convert, Sem.run_bind, run_underlying (kind_slice hT hs), run_underlying (kind_str hT hd), run_underlying (kind_int hT he), Result.andThen_ok, Conv.bytesToString, hcells]
      rw [hden, List.forIn_toArray, run_bytesLoop W _ (fun n s => rfl) ByteArray.empty (bytesOf_bytesA _)]
      simp [bytesOf_bytesA, den]
      exact take_extract z len
    · cases h
  · cases h
end
end Go.Proofs.YtodgioleaegpfaaDoor.Am
namespace Go.Proofs.YtodgioleaegpfaaDoor.Am
open Go Go.RowKit Go.Proofs.YtodgioleaegpfaaDoorW.PrintWords
set_option linter.unusedVariables false
set_option linter.unusedSimpArgs false
section
variable {P : Program} {T : Tab} (hT : TabOK P T) {B : Nat → Nat} {env : Env} {mem : Mem} {a : Act} {W : World} {q : Oper} {o o' : Orc} {v : AV} {cs : List Cst}
include hT
theorem builtin_den {c : Call} (hf : Fits B env a) (hq : q.op = .call c) (h : pureA T env mem (.call c) o = some (v, o', cs)) : (execOp a.eval q).run P W = .ok (.value (den B v)) W := by
  simp only [pureA] at h
  split at h
  · rename_i x hcal hargs
    split at h
    · rename_i t u hty hx
      have hat : c.argTypes = #[t] := by rw [← Array.toList_inj, hty]
      have har : c.args = #[x] := by rw [← Array.toList_inj, hargs]
      split at h
      · rename_i s hk
        cases h
        simp only [execOp, hq, resolve, hcal, hat, har, pure_bind, invoke, builtin]
        simp [ev_den hf hx, den, run_len_string W t q.type s (kind_str hT hk), goInt]
      · rename_i e id off n cap hk
        cases h
        have hs := kind_slice hT hk
        have he : P.underlying t = some (.slice (P.elem t)) := by rw [hs]; simp [Program.elem, hs]
        simp only [execOp, hq, resolve, hcal, hat, har, pure_bind, invoke, builtin]
        simp [ev_den hf hx, den, run_len_slice W t q.type _ n cap he, goInt]
      · rename_i e id n hk
        cases h
        have hs := kind_slice hT hk
        have he : P.underlying t = some (.slice (P.elem t)) := by rw [hs]; simp [Program.elem, hs]
        simp only [execOp, hq, resolve, hcal, hat, har, pure_bind, invoke, builtin]
        simp [ev_den hf hx, den, run_len_slice W t q.type _ n (B (id - 1)) he, goInt]
      · rename_i e hk
        cases h
        have hs := kind_slice hT hk
        have he : P.underlying t = some (.slice (P.elem t)) := by rw [hs]; simp [Program.elem, hs]
        simp only [execOp, hq, resolve, hcal, hat, har, pure_bind, invoke, builtin]
        simp [ev_den hf hx, den, run_len_slice W t q.type none 0 0 he, goInt]
      · cases h
    · cases h
  · rename_i x y hcal hargs
    split at h
    · rename_i m n hx hy
      cases h
      have har : c.args = #[x, y] := by rw [← Array.toList_inj, hargs]
      simp only [execOp, hq, resolve, hcal, har, pure_bind, invoke, builtin]
      simp [ev_den hf hx, ev_den hf hy, den, Builtin.max_, Builtin.max2]
    · cases h
  · rename_i x y hcal hargs
    split at h
    · rename_i m n hx hy
      cases h
      have har : c.args = #[x, y] := by rw [← Array.toList_inj, hargs]
      simp only [execOp, hq, resolve, hcal, har, pure_bind, invoke, builtin]
      simp [ev_den hf hx, ev_den hf hy, den, Builtin.min_, Builtin.min2]
    · cases h
  · cases h
theorem pureA_den {w0 : World} {op : Op} (hc : Holds P w0 cs) (hf : Fits B env a) (hm : MemOK B mem W) (hq : q.op = op) (h : pureA T env mem op o = some (v, o', cs)) : (execOp a.eval q).run P W = .ok (.value (den B v)) W := by
  cases op
  case move x =>
    simp only [pureA] at h
    obtain ⟨w, hw, he⟩ := Option.map_eq_some_iff.1 h
    cases he
    simp [execOp, hq, ev_den hf hw]
  case assign x =>
    simp only [pureA] at h
    obtain ⟨w, hw, he⟩ := Option.map_eq_some_iff.1 h
    cases he
    simp [execOp, hq, ev_den hf hw]
  case pick c x y =>
    simp only [pureA] at h
    split at h
    · rename_i t ht
      split at h
      · rename_i o1 c1 ha
        obtain ⟨w, hw, he⟩ := Option.map_eq_some_iff.1 h
        cases he
        have := ask_den ha hc
        subst this
        simp [execOp, hq, ev_den hf ht, ev_den hf hw, den, asBool]
      · rename_i o1 c1 ha
        obtain ⟨w, hw, he⟩ := Option.map_eq_some_iff.1 h
        cases he
        have := ask_den ha hc
        subst this
        simp [execOp, hq, ev_den hf ht, ev_den hf hw, den, asBool]
      · cases h
    · cases h
  case build t ps => exact build_den hT hf hq h
  case load t x => exact load_den hT hc hf hm hq h
  case nilCheck x =>
    simp only [pureA] at h
    split at h
    · rename_i id off hx
      cases h
      simp [execOp, hq, ev_den hf hx, den]
    · rename_i f fs ca hx
      cases h
      simp [execOp, hq, ev_den hf hx, den]
    · cases h
  case binOp op t x y u =>
    simp only [pureA] at h
    split at h
    · rename_i x' y' hx hy
      have := run_binA (B := B) W hT (ox := x) (oy := y) h hc
      simp only [execOp, hq, ev_den hf hx, ev_den hf hy]
      rw [Sem.run_bind, this]
      rfl
    · cases h
  case unOp op t x =>
    simp only [pureA] at h
    split at h
    · rename_i b hx
      cases h
      simp [execOp, hq, ev_den hf hx, den, Op.unary]
    · rename_i k n hx
      cases h
      simp [execOp, hq, ev_den hf hx, den, Op.unary, Op.intArith]
    · cases h
  case convert s d x => exact convert_den hT hc hf hm hq h
  case makeFunc f fs ca =>
    simp only [pureA] at h
    split at h
    · rename_i x y hx hy
      cases h
      have h1 : fs.map a.eval = (denL B x).toArray := Array.toList_inj.1 (by rw [Array.toList_map]; exact evs_den hf hx)
      have h2 : ca.map a.eval = (denL B y).toArray := Array.toList_inj.1 (by rw [Array.toList_map]; exact evs_den hf hy)
      simp [execOp, hq, Instr.makeFunc, h1, h2, den]
    · cases h
  case slice t x l h' m =>
    cases m with
    | none => exact slice_den hT hc hm hf hq h
    | some m => simp [pureA] at h
  case fieldAddr s x f => exact fieldAddr_den hT hf hq h
  case field t x f => exact field_den hT hf hq h
  case indexAddr t x y => exact indexAddr_den hT hc hf hq h
  case index t x y => exact index_den hT hc hf hq h
  case extract x i =>
    simp only [pureA] at h
    split at h
    · rename_i vs hx
      obtain ⟨w, hw, he⟩ := Option.map_eq_some_iff.1 h
      cases he
      have : (denL B vs).toArray[i]? = some (den B v) := by simp [denL_get, hw]
      simp [execOp, hq, ev_den hf hx, den, Instr.extract, this]
    · cases h
  case call c => exact builtin_den hT hf hq h
  all_goals (simp [pureA] at h)
end
/-- A call of a function with a body. -/
theorem callA_den {P : Program} {B : Nat → Nat} {env : Env} {a : Act} {W : World} {q : Oper} {f : FuncId} {args : List AV} (hf : Fits B env a) (hb : ∃ fn, P.funcs[f]? = some fn ∧ (fn.name == "runtime.NumGoroutine") = false ∧ fn.body.isNone = false) (h : callA env q.op = some (f, args)) :
    (execOp a.eval q).run P W = .ok (.enter f (denL B args).toArray) W := by
  unfold callA at h
  split at h
  · rename_i c hq
    split at h
    · rename_i fo hcal
      split at h
      · rename_i g first captured vs hfo hvs
        cases h
        obtain ⟨fn, h1, h2, h3⟩ := hb
        have h4 : c.args.map a.eval = (denL B vs).toArray := Array.toList_inj.1 (by rw [Array.toList_map]; exact evs_den hf hvs)
        have h5 : (denL B first).toArray ++ (denL B vs).toArray ++ (denL B captured).toArray = (denL B (first ++ vs ++ captured)).toArray := by simp [denL_append]
        simp only [execOp, hq, resolve, hcal, h4, ev_den hf hfo, den, Deferred.ofValue, pure_bind, invoke, h5, callFunc]
        have h2' : fn.name ≠ "runtime.NumGoroutine" := by simpa using h2
        have h3' : fn.body ≠ none := by intro e; rw [e] at h3; cases h3
        simp [h1, h2', h3']
      · cases h
    · cases h
  · cases h
end Go.Proofs.YtodgioleaegpfaaDoor.Am
namespace Go.Proofs.YtodgioleaegpfaaDoor.Am
open Go Go.RowKit Go.Proofs.YtodgioleaegpfaaDoorW.PrintWords
set_option linter.unusedVariables false
set_option linter.unusedSimpArgs false
theorem replA_get {z : List AV} : ∀ (n i : Nat), i < n * z.length → (replA z n)[i]? = z[i % z.length]?
  | 0, i, h => by simp at h
  | n + 1, i, h => by
    simp only [replA, List.getElem?_append]
    by_cases hi : i < z.length
    · rw [if_pos hi, Nat.mod_eq_of_lt hi]
    · rw [if_neg hi, replA_get n (i - z.length) (by rw [Nat.succ_mul] at h; omega)]
      rw [← Nat.mod_eq_sub_mod (by omega)]
theorem replA_length (z : List AV) (n : Nat) : (replA z n).length = n * z.length := by
  induction n with
  | zero => simp [replA]
  | succ n ih => simp [replA, ih, Nat.succ_mul]; omega
theorem setCells_row (g : Nat) : ∀ (vs : List Value) (o : Nat) (w : World) (cs : Array Value) (t : TypeId) (fr : Nat × Nat), w.heap[g]? = some (.cells cs t fr) → o + vs.length ≤ cs.size →
    ∃ cs', (w.setCells g o vs).heap[g]? = some (.cells cs' t fr) ∧ cs'.size = cs.size ∧ cs'.toList.take (o + vs.length) = cs.toList.take o ++ vs
  | [], o, w, cs, t, fr, h, hl => ⟨cs, h, rfl, by simp⟩
  | v :: vs, o, w, cs, t, fr, h, hl => by
    simp only [List.length_cons] at hl
    have h1 : (w.setCell ⟨g, o, none⟩ v).heap[g]? = some (.cells (cs.setIfInBounds o v) t fr) := by
      simp [World.setCell, Array.getElem?_modify, h]
    obtain ⟨cs', g1, g2, g3⟩ := setCells_row g vs (o + 1) _ _ t fr h1 (by simp; omega)
    refine ⟨cs', g1, by simpa using g2, ?_⟩
    rw [show o + (v :: vs).length = o + 1 + vs.length by simp; omega, g3]
    have : (cs.setIfInBounds o v).toList.take (o + 1) = cs.toList.take o ++ [v] := by
      rw [Array.toList_setIfInBounds, List.take_add_one, List.take_set_of_le (Nat.le_refl o)]
      congr 1
      rw [List.getElem?_set_self (by simp; omega)]
      rfl
    rw [this]
    simp
theorem setCells_size (g : Nat) : ∀ (vs : List Value) (o : Nat) (w : World), (w.setCells g o vs).heap.size = w.heap.size
  | [], o, w => rfl
  | v :: vs, o, w => by rw [World.setCells, setCells_size g vs (o + 1)]; simp [World.setCell]
theorem setCells_off (g : Nat) : ∀ (vs : List Value) (o : Nat) (w : World) (k : Nat), k ≠ g → (w.setCells g o vs).heap[k]? = w.heap[k]?
  | [], o, w, k, h => rfl
  | v :: vs, o, w, k, h => by rw [World.setCells, setCells_off g vs (o + 1) _ k h, Below.heap_setCell w _ v k h]
theorem setCells_rest (g : Nat) : ∀ (vs : List Value) (o : Nat) (w : World), (w.setCells g o vs).os = w.os ∧ (w.setCells g o vs).tape = w.tape ∧ (w.setCells g o vs).output = w.output
  | [], o, w => ⟨rfl, rfl, rfl⟩
  | v :: vs, o, w => by rw [World.setCells]; exact setCells_rest g vs (o + 1) _
theorem Mem.at_room {m : Mem} {id : Nat} {x b : MB} {i : Nat} (h : Mem.at (m.set id none ++ [none, some x]) i = some b) : (i = m.length + 1 ∧ b = x) ∨ (i < m.length ∧ i ≠ id ∧ m.at i = some b) := by
  have h1 : (m.set id none ++ [none, some x] : Mem) = (m.set id none ++ [none]) ++ [some x] := by simp
  rw [h1, Mem.at_push] at h
  split at h
  · rename_i e
    left
    exact ⟨by simpa using e, (Option.some.inj h).symm⟩
  · right
    rw [Mem.at_push0, Mem.at_eq, List.getElem?_set] at h
    split at h
    · split at h <;> cases h
    · rename_i e
      have h2 : m.at i = some b := by rw [Mem.at_eq]; exact h
      exact ⟨Mem.at_lt h2, fun e' => e e'.symm, h2⟩
/-- A block of bytes is written behind its end: it has a new number. -/
theorem Rel.room {w0 W W' : World} {nin : Nat} {B : Nat → Nat} {mem : Mem} (hr : Rel w0 nin B mem W) (hm : loMem mem.length mem = true) {id : Nat} {z z' : ByteArray} {e : TypeId} (hid : mem.byt id = some (z, e)) (cap : Nat)
    (hW : W'.os = W.os ∧ W'.tape = W.tape ∧ W'.output = W.output) (hsz : W'.heap.size = W.heap.size) (hold : ∀ k, k ≠ B id → W'.heap[k]? = W.heap[k]?)
    (hbyt : ∃ (cs : Array Value) (fr : Nat × Nat), W'.heap[B id]? = some (.cells cs e fr) ∧ cs.toList.take z'.size = bytesV z' ∧ cs.size = cap ∧ z'.size ≤ cs.size ∧ ∀ o, o < cs.size → ¬ (fr.1 ≤ o ∧ o < fr.2)) :
    Rel w0 nin (upB2 B mem.length cap (B id)) (mem.set id none ++ [none, some (.bytes z' e)]) W' := by
  have hida := Mem.byt_at hid
  have hidl := Mem.at_lt hida
  have hB : ∀ i, i < mem.length → upB2 B mem.length cap (B id) i = B i := fun i hi => upB2_lt hi
  have hn := hr.nin_le
  refine ⟨hW.1.trans hr.os, hW.2.1.trans hr.tape, hW.2.2.trans hr.output, by rw [hsz]; exact hr.size, ?_, ?_, ?_, ?_, ?_, by simp; omega⟩
  · intro k hk hi
    have hi' : ∀ i, i < nin → B i ≠ k := fun i h => by have := hi i h; rwa [hB i (by omega)] at this
    by_cases e1 : k = B id
    · by_cases h1 : id < nin
      · exact absurd e1.symm (hi' id h1)
      · rcases hr.fresh id _ (by omega) hida with h | ⟨j, hj, hj2⟩
        · omega
        · exact absurd (hj2.trans e1.symm) (hi' j hj)
    · rw [hold k e1]
      exact hr.frame k hk hi'
  · intro i b h
    rcases Mem.at_room (Mem.blk_at h) with ⟨-, h1⟩ | ⟨h1, h2, h3⟩
    · cases h1
    · rw [hB i h1, denL_same (B := B) hB _ (loMem_at hm h3), hold _ (fun e1 => h2 (hr.inj i id _ _ h3 hida e1))]
      exact hr.blk i b (Mem.blk_of h3)
  · intro i s e' h
    rcases Mem.at_room (Mem.byt_at h) with ⟨rfl, h1⟩ | ⟨h1, h2, h3⟩
    · cases h1
      obtain ⟨cs, fr, g1, g2, g3, g4⟩ := hbyt
      exact ⟨cs, fr, by rw [upB2_blk]; exact g1, g2, by rw [Nat.add_sub_cancel, upB2_cap]; exact g3, g4⟩
    · obtain ⟨cs, fr, g1, g2, g3, g4⟩ := hr.byt i s e' (Mem.byt_of h3)
      exact ⟨cs, fr, by rw [hB i h1, hold _ (fun e1 => h2 (hr.inj i id _ _ h3 hida e1))]; exact g1, g2, by rw [hB (i - 1) (by omega)]; exact g3, g4⟩
  · intro i j b b' hi hj e1
    rcases Mem.at_room hi with ⟨rfl, -⟩ | ⟨h1, h2, h3⟩ <;> rcases Mem.at_room hj with ⟨rfl, -⟩ | ⟨k1, k2, k3⟩
    · rfl
    · rw [upB2_blk, hB j k1] at e1
      exact absurd (hr.inj id j _ _ hida k3 e1).symm k2
    · rw [upB2_blk, hB i h1] at e1
      exact absurd (hr.inj i id _ _ h3 hida e1) h2
    · rw [hB i h1, hB j k1] at e1
      exact hr.inj i j _ _ h3 k3 e1
  · intro i b hle hi
    rcases Mem.at_room hi with ⟨rfl, -⟩ | ⟨h1, h2, h3⟩
    · rw [upB2_blk]
      by_cases h4 : id < nin
      · exact .inr ⟨id, h4, hB id hidl⟩
      · rcases hr.fresh id _ (by omega) hida with h | ⟨j, hj, hj2⟩
        · exact .inl h
        · exact .inr ⟨j, hj, by rw [hB j (by omega)]; exact hj2⟩
    · rw [hB i h1]
      rcases hr.fresh i b hle h3 with h | ⟨j, hj, hj2⟩
      · exact .inl h
      · exact .inr ⟨j, hj, by rw [hB j (by omega)]; exact hj2⟩
theorem newBytes_some {s : St} {mem m : Mem} {z : ByteArray} {e : TypeId} {n : Nat} (h : newBytes s mem z e = some (n, m)) : n = s.mem.length + 1 ∧ m = mem ++ [none, some (.bytes z e)] ∧ loEnv s.mem.length s.env = true ∧ loMem s.mem.length s.mem = true := by
  unfold newBytes at h
  cases hc : (loEnv s.mem.length s.env && loMem s.mem.length s.mem) with
  | false => rw [hc] at h; cases h
  | true =>
    rw [hc] at h
    simp only [Bool.and_eq_true] at hc
    cases h
    exact ⟨rfl, rfl, hc⟩
theorem bytesOf_den (B : Nat → Nat) : ∀ {cs : List AV} {l : List UInt8}, bytesOf cs = some l → rangeB cs = true → denL B cs = bytesV ⟨l.toArray⟩ ∧ cs.length = l.length
  | [], l, h, _ => by cases h; exact ⟨rfl, rfl⟩
  | c :: cs, l, h, hr => by
    unfold bytesOf at h
    split at h
    · rename_i he; cases he
    · rename_i n r he
      cases he
      obtain ⟨m, hm, rfl⟩ := Option.map_eq_some_iff.1 h
      simp only [rangeB, Bool.and_eq_true, decide_eq_true_eq] at hr
      obtain ⟨h1, h2⟩ := bytesOf_den B hm hr.2
      have hn : ((UInt8.ofNat n.toNat).toNat : Int) = n := by
        rw [UInt8.toNat_ofNat']
        omega
      refine ⟨?_, by simp [h2]⟩
      simp only [denL, den, h1, bytesV, List.map_cons, hn]
    · cases h
theorem bytesV_one (s : ByteArray) : ∀ u ∈ bytesV s, u.oneCell' = true := by
  intro u hu
  obtain ⟨b, -, rfl⟩ := List.mem_map.1 hu
  rfl
theorem bytesV_append (x y : ByteArray) : bytesV (x ++ y) = bytesV x ++ bytesV y := by
  simp [bytesV, ByteArray.data_append]
theorem bytesV_extract (x : ByteArray) (n : Nat) : bytesV (x.extract 0 n) = (bytesV x).take n := by
  unfold bytesV
  rw [← take_extract x n]
  simp [List.map_take]
section
variable {P : Program} {T : Tab} (hT : TabOK P T) {B : Nat → Nat} {nin : Nat} {w0 W : World} {a : Act} {s : St} {q : Oper} {v : AV} {m : Mem}
include hT
theorem run_zero_den (w : World) {t : TypeId} {i : TyI} (hi : T.at t = some i) : ∃ zv, (zeroValue t).run P w = .ok zv w ∧ zv.cells = (denL B i.zero).toArray := by
  obtain ⟨ti, h1, h2, zv, h3, h4, -⟩ := (hT t i hi).info
  exact ⟨zv, by simp [zeroValue, typeInfo, h1, h3], by rw [h4 B]⟩
/-- What a write leaves. -/
def Wrote (P : Program) (w0 W : World) (nin : Nat) (B : Nat → Nat) (s : St) (a : Act) (q : Oper) (v : AV) (m : Mem) : Prop :=
  ∃ (B' : Nat → Nat) (W' : World) (nx : Next), (execOp a.eval q).run P W = .ok nx W' ∧ (nx = .value (den B' v) ∨ nx = .skip ∧ v = .tup []) ∧ Fits B' s.env a ∧ Rel w0 nin B' m W' ∧ ∀ i, i < s.mem.length → B' i = B i
theorem writeA_den {o' : Orc} {cst : List Cst} (hc : Holds P w0 cst) (hf : Fits B s.env a) (hr : Rel w0 nin B s.mem W) (h : writeA T s q.op = some (v, m, o', cst)) : Wrote P w0 W nin B s a q v m := by
  unfold writeA at h
  split at h
  · rename_i t hq
    split at h
    · rename_i i hi
      obtain ⟨⟨n, m'⟩, hn, he⟩ := Option.map_eq_some_iff.1 h
      cases he
      obtain ⟨rfl, h1, h2⟩ := newA_den hn hf hr
      obtain ⟨zv, hz1, hz2⟩ := run_zero_den hT (B := B) W hi
      refine ⟨_, _, _, ?_, .inl rfl, h1, h2, fun i hi => upB_lt hi⟩
      simp only [execOp, hq, den, upB_at]
      simp [Instr.alloc, hz1, newVar, newRow, hz2]
    · cases h
  · rename_i t x hq
    split at h
    · rename_i u hu
      obtain ⟨⟨n, m'⟩, hn, he⟩ := Option.map_eq_some_iff.1 h
      cases he
      obtain ⟨rfl, h1, h2⟩ := newA_den hn hf hr
      refine ⟨_, _, _, ?_, .inl rfl, h1, h2, fun i hi => upB_lt hi⟩
      simp only [execOp, hq, den, upB_at]
      simp [Instr.box, ev_den hf hu, newVar, newRow, cellsA_den]
    · cases h
  · rename_i t len ps hq
    split at h
    · rename_i e vs hk hvs
      split at h
      · rename_i j hj
        cases h0 : Nat.beq (len * j.size) 0 with
        | true => rw [h0] at h; cases h
        | false =>
          rw [h0] at h
          simp only [cond_false] at h
          cases h1 : (Nat.ble (len * j.size) (2 ^ 24) && Nat.beq j.zero.length j.size) with
          | false => rw [h1] at h; cases h
          | true =>
            rw [h1] at h
            simp only [cond_true] at h
            simp only [Bool.and_eq_true, Nat.ble_eq, Nat.beq_eq] at h1
            have h0' : len * j.size ≠ 0 := by intro e; rw [e] at h0; cases h0
            split at h
            · rename_i cs hcs
              obtain ⟨⟨n, m'⟩, hn, he⟩ := Option.map_eq_some_iff.1 h
              cases he
              obtain ⟨rfl, h2, h3⟩ := newA_den hn hf hr
              obtain ⟨zv, hz1, hz2⟩ := run_zero_den hT (B := B) W hj
              refine ⟨_, _, _, ?_, .inl rfl, h2, h3, fun i hi => upB_lt hi⟩
              have hps : (ps.map fun (i, x) => (i, a.eval x)).toList = vs.map fun p => (p.1, den B p.2) := by rw [← evps_den hf hvs]; simp
              have hsz : zv.cells.size = j.size := by rw [hz2]; simp [denL_length, h1.2]
              have hrow : (Array.range (len * j.size)).map (fun i => zv.cells[i % zv.cells.size]!) = (denL B (replA j.zero len)).toArray := by
                apply Array.toList_inj.1
                apply List.ext_getElem?
                intro i
                rw [hsz, hz2]
                simp only [Array.toList_map, Array.toList_range, List.getElem?_map, denL_get]
                by_cases hi : i < len * j.size
                · rw [List.getElem?_range hi, replA_get len i (by rw [h1.2]; exact hi)]
                  have hlt : i % j.size < j.zero.length := by rw [h1.2]; exact Nat.mod_lt _ (by have : len * j.size ≠ 0 := h0'; exact Nat.pos_of_ne_zero (fun e => by rw [e] at this; simp at this))
                  simp only [Option.map_some, h1.2, List.getElem?_eq_getElem hlt]
                  congr 1
                  rw [Array.getElem!_eq_getD, Array.getD_eq_getD_getElem?]
                  simp [denL_get, List.getElem?_eq_getElem hlt]
                · rw [List.getElem?_eq_none (by simpa using hi), List.getElem?_eq_none (by rw [replA_length, h1.2]; omega)]
                  rfl
              have hfill := fillA_den B hcs
              rw [← hps] at hfill
              simp only [execOp, hq, den, upB_at]
              have hns : ¬ len * j.size > 2 ^ 24 := by omega
              have hu := kind_slice hT hk
              simp only [Instr.buildSlice, Sem.run_bind, run_underlying hu, Result.andThen_ok, run_sizeOf_den hT W hj, if_neg hns, if_neg h0', hz1, Sem.run_pure, hrow, hfill]
              simp [newRow]
            · cases h
      · cases h
    · cases h
  · rename_i t x y hq
    split at h
    · rename_i id off u i hx hy hi
      split at h
      · rename_i b hb
        cases hcc : (Nat.beq (cellsA u).length i.size && Nat.ble (off + i.size) b.cells.length && oneL (cellsA u)) with
        | false => rw [hcc] at h; cases h
        | true =>
          rw [hcc] at h
          cases h
          simp only [Bool.and_eq_true, Nat.ble_eq, Nat.beq_eq] at hcc
          obtain ⟨⟨h1, h2⟩, h3⟩ := hcc
          have hB := hr.blk id b hb
          have hst := run_storeCells_at (P := P) (B id) off b.ty (denL B (cellsA u)) 0 (denL B b.cells).toArray W hB (by simp [denL_length]; omega) (oneL_den B h3)
          refine ⟨B, _, _, ?_, .inr ⟨rfl, rfl⟩, hf, hr.put (b := ⟨splice b.cells off (cellsA u), b.ty⟩) hb (W.setRow (B id) (denL B (splice b.cells off (cellsA u))).toArray) rfl rfl rfl ?_ ?_ ?_, fun _ _ => rfl⟩
          · have hcz : ¬ (den B u).cells.size ≠ i.size := by rw [cellsA_den]; simp [denL_length, h1]
            simp only [execOp, hq, ev_den hf hx, ev_den hf hy, Instr.storeAt, Instr.sureAddr, den, Sem.run_bind, Sem.run_pure, Result.andThen_ok, storeVar, run_sizeOf_den hT W hi, if_neg hcz]
            have : (den B u).cells.toList = denL B (cellsA u) := by rw [cellsA_den]
            rw [this, hst, splice_den]
            simp [List.take_of_length_le (show (denL B (cellsA u)).length ≤ b.cells.length - off by rw [denL_length]; omega), denL_length]
          · simp [World.setRow]
          · intro k hk
            simp only [World.setRow, Array.getElem?_modify]
            rw [if_neg (fun e => hk e.symm)]
          · exact setRow_heap W (B id) _ _ b.ty (0, 0) hB
      · cases h
    · cases h
  · rename_i sT dT x hq
    split at h
    · rename_i e z hs hd hx
      split at h
      · rename_i he
        obtain ⟨⟨n, m'⟩, hn, hE⟩ := Option.map_eq_some_iff.1 h
        cases hE
        obtain ⟨rfl, rfl, h1, h2⟩ := newBytes_some hn
        have hcap := grownCap_ge W z.size 0 e
        refine ⟨upB2 B s.mem.length (grownCap W z.size 0 e) W.heap.size, W.drew.alloc (.cells (bytesRow z (grownCap W z.size 0 e)) e ((bytesRow z (grownCap W z.size 0 e)).size, (bytesRow z (grownCap W z.size 0 e)).size + 1)), _, ?_, .inl rfl, hf.up2 h1,
          newBytes_new hr h2 z e (grownCap W z.size 0 e) ⟨rfl, rfl, rfl, by simp⟩ (fun k hk => Below.heap_alloc W.drew _ k hk) ⟨bytesRow z (grownCap W z.size 0 e), _, blk_new W.drew _, ?_, ?_, ?_, ?_⟩, fun i hi => upB2_lt hi⟩
        · have := run_bytes_of_string (P := P) W sT dT e z (kind_str hT hs) (kind_slice hT hd) (kind_int hT he)
          simp only [execOp, hq, ev_den hf hx, den, Nat.add_sub_cancel, upB2_blk, upB2_cap]
          rw [Sem.run_bind, this]
          rfl
        · have hl : z.size = (z.data.map (fun b => Value.int .u8 b.toNat)).toList.length := by simp
          rw [bytesRow, Array.toList_append, hl, List.take_left']
          · simp [bytesV]
          · rfl
        · have : z.data.size = z.size := rfl
          simp [bytesRow, this]
          omega
        · have : z.data.size = z.size := rfl
          simp [bytesRow, this]
        · intro o ho h
          omega
      · cases h
    · cases h
  · rename_i c hq
    split at h
    · rename_i x y t u hcal hargs hty
      split at h
      · rename_i e xv id2 off m0 cap2 htu hk hx hy
        split at h
        · rename_i j b hj he hb
          cases hcc : (Nat.ble (off + m0) b.cells.length && Nat.blt 0 m0) with
          | false => rw [hcc] at h; cases h
          | true =>
            rw [hcc] at h
            simp only [cond_true] at h
            simp only [Bool.and_eq_true, Nat.ble_eq, Nat.blt_eq] at hcc
            obtain ⟨hlen, hpos⟩ := hcc
            have htu := Nat.eq_of_beq_eq_true htu
            subst htu
            have hat : c.argTypes = #[t, t] := by rw [← Array.toList_inj, hty]
            have har : c.args = #[x, y] := by rw [← Array.toList_inj, hargs]
            obtain ⟨ti, hi1, hi2, hi3, zv, hz1, hz2⟩ := (hT e j hj).u8 (by
              unfold Tab.kind at he; rw [hj] at he; exact Option.some.inj he)
            have hB2 := hr.blk id2 b hb
            have src : ∀ l : List UInt8, bytesOf ((b.cells.drop off).take m0) = some l → rangeB ((b.cells.drop off).take m0) = true → Src P ti.size t (.slice (some ⟨B id2, off, none⟩) m0 cap2) m0 (bytesV ⟨l.toArray⟩) W ∧ l.length = m0 := by
              intro l hl hrg
              obtain ⟨h1, h2⟩ := bytesOf_den B hl hrg
              have h3 : l.length = m0 := by rw [← h2, List.length_take, List.length_drop]; omega
              refine ⟨Src.ofSlice W (kind_slice hT hk) ⟨B id2, off, none⟩ m0 cap2 _ ?_ ?_ (bytesV_one _), h3⟩
              · rw [bytesV_length, hi2]; simp [ByteArray.size, h3]
              · intro i v hv
                rw [← h1] at hv
                rw [Addr.add_mid, cell_of_row W (B id2) (off + i) _ _ _ hB2]
                rw [denL_get] at hv
                obtain ⟨w, hw, rfl⟩ := Option.map_eq_some_iff.1 hv
                simp [denL_get, take_drop_get hw]
            split at h
            · rename_i xv2 l hl
              split at h
              · rename_i n mm o2 c2 hnb hch
                cases h
                have hc1 := chk_den hch hc
                simp only [Bool.and_eq_true, decide_eq_true_eq] at hc1
                obtain ⟨rfl, rfl, h1, h2⟩ := newBytes_some hnb
                obtain ⟨hsrc, hll⟩ := src l hl hc1.2
                have hg := run_append_grow_src (P := P) W t t q.type e ti zv (kind_slice hT hk) hi1 hz1 none 0 0 [] (by simp [Builtin.firstCells]) _ m0 _ hsrc (by omega) (by omega)
                  (growslice_fits (by omega) (by rw [hi3]; omega))
                simp only [Nat.zero_add] at hg
                have hcap := grownCap_ge W m0 0 e
                have hlz : (⟨l.toArray⟩ : ByteArray).size = m0 := by simp [ByteArray.size, hll]
                refine ⟨upB2 B s.mem.length (grownCap W m0 0 e) W.heap.size, _, _, ?_, .inl rfl, hf.up2 h1,
                  newBytes_new (W' := W.drew.alloc (.cells (([] ++ bytesV ⟨l.toArray⟩).toArray ++ Builtin.zeroCells zv.cells (grownCap W m0 0 e - m0)) e)) hr h2 ⟨l.toArray⟩ e (grownCap W m0 0 e) ⟨rfl, rfl, rfl, by simp⟩ (fun k hk => Below.heap_alloc W.drew _ k hk) ⟨_, _, blk_new W.drew _, ?_, ?_, ?_, ?_⟩, fun i hi => upB2_lt hi⟩
                · simp only [execOp, hq, resolve, hcal, hat, har, pure_bind, invoke, builtin]
                  simp only [Array.map, Array.mapM_eq_mapM_toList] at hg ⊢
                  simp [ev_den hf hx, ev_den hf hy, den, upB2_blk, upB2_cap] at hg ⊢
                  rw [hg]
                  rfl
                · rw [Array.toList_append, List.nil_append, List.take_left']
                  rw [bytesV_length]
                · simp [size_zeroCells, bytesV_length, hlz, hz2]; omega
                · simp [size_zeroCells, bytesV_length, hlz, hz2]
                · intro o ho h; omega
              · cases h
            · rename_i xv2 l id len hl
              split at h
              · rename_i z e' hby
                split at h
                · rename_i n mm o2 c2 hbe hnb hch
                  cases h
                  have hbe := Nat.eq_of_beq_eq_true hbe
                  subst hbe
                  have hc1 := chk_den hch hc
                  simp only [Bool.and_eq_true, decide_eq_true_eq] at hc1
                  obtain ⟨rfl, rfl, h1, h2⟩ := newBytes_some hnb
                  obtain ⟨hsrc, hll⟩ := src l hl hc1.2
                  obtain ⟨cs, fr, g1, g2, g3, g4, g5⟩ := hr.byt id z e hby
                  have hlz : (⟨l.toArray⟩ : ByteArray).size = m0 := by simp [ByteArray.size, hll]
                  have hex : (z.extract 0 len).size = len := by rw [ByteArray.size_extract]; omega
                  by_cases hroom : len + m0 ≤ cs.size
                  · have hg := run_append_room_src (P := P) W t t q.type e ti (kind_slice hT hk) hi1 (B id) 0 len (B (id - 1)) _ m0 _ hsrc (by omega)
                      (fun j hj => by
                        rw [cell_of_row W (B id) _ _ _ _ g1]
                        rw [bytesV_length, hlz] at hj
                        rw [hi2]
                        simp; omega)
                      (fun j hj => by
                        rw [bytesV_length, hlz] at hj
                        have := g5 (0 + len * ti.size + j) (by rw [hi2]; omega)
                        simp only [World.frozen?, g1]
                        simpa using this)
                    have hrow := setCells_row (B id) (bytesV ⟨l.toArray⟩) (0 + len * ti.size) W cs e fr g1 (by rw [bytesV_length, hlz, hi2]; omega)
                    obtain ⟨cs', k1, k2, k3⟩ := hrow
                    obtain ⟨r1, r2, r3⟩ := setCells_rest (B id) (bytesV ⟨l.toArray⟩) (0 + len * ti.size) W
                    refine ⟨upB2 B s.mem.length (B (id - 1)) (B id), _, _, ?_, .inl rfl, hf.up2 h1,
                      hr.room (W' := W.setCells (B id) (0 + len * ti.size) (bytesV ⟨l.toArray⟩)) h2 hby (B (id - 1)) ⟨r1, r2, r3⟩ (setCells_size _ _ _ _) (fun k hk => setCells_off _ _ _ _ k hk) ⟨cs', fr, k1, ?_, ?_, ?_, ?_⟩, fun i hi => upB2_lt hi⟩
                    · simp only [execOp, hq, resolve, hcal, hat, har, pure_bind, invoke, builtin]
                      simp [ev_den hf hx, ev_den hf hy, den, upB2_blk, upB2_cap] at hg ⊢
                      rw [hg]
                      rfl
                    · rw [bytesV_length, hlz, hi2] at k3
                      rw [ByteArray.size_append, hex, hlz, bytesV_append, bytesV_extract]
                      rw [show len + m0 = 0 + len * 1 + m0 by omega, k3, ← g2, List.take_take]
                      rw [show min len z.size = 0 + len * 1 by omega]
                    · rw [k2, g3]
                    · rw [ByteArray.size_append, hex, hlz, k2]; exact hroom
                    · rw [k2]; exact g5
                  · have hg := run_append_grow_src (P := P) W t t q.type e ti zv (kind_slice hT hk) hi1 hz1 (some ⟨B id, 0, none⟩) len (B (id - 1)) (bytesV (z.extract 0 len))
                      (run_firstCells_some W.drew ti.size len ⟨B id, 0, none⟩ len (B (id - 1)) _ (by rw [bytesV_length, hex, hi2]; omega) (fun j v hv => by
                        have hj : j < len := by
                          have := (List.getElem?_eq_some_iff.1 hv).1
                          rwa [bytesV_length, hex] at this
                        rw [bytesV_extract, List.getElem?_take, if_pos hj, bytesV_get (by omega)] at hv
                        rw [Addr.add_mid, Nat.zero_add, ← hv]
                        exact byt_cell (B := B) (W := W.drew) g1 g2 (by omega)))
                      _ m0 _ hsrc (by omega) (by omega) (growslice_fits (by omega) (by rw [hi3]; omega))
                    have hcap := grownCap_ge W (len + m0) (B (id - 1)) e
                    have hrd : Rel w0 nin B (s.mem.set id none) W := hr.drop id
                    have hml : (s.mem.set id none).length = s.mem.length := by simp
                    have hnew : Rel w0 nin (upB2 B (s.mem.set id none).length (grownCap W (len + m0) (B (id - 1)) e) W.heap.size) (s.mem.set id none ++ [none, some (.bytes (z.extract 0 len ++ ⟨l.toArray⟩) e)])
                        (W.drew.alloc (.cells ((bytesV (z.extract 0 len) ++ bytesV ⟨l.toArray⟩).toArray ++ Builtin.zeroCells zv.cells (grownCap W (len + m0) (B (id - 1)) e - (len + m0))) e)) := by
                      refine newBytes_new hrd (by rw [hml]; exact loMem_set id h2) (z.extract 0 len ++ ⟨l.toArray⟩) e (grownCap W (len + m0) (B (id - 1)) e) ⟨rfl, rfl, rfl, by simp⟩ (fun k hk => Below.heap_alloc W.drew _ k hk) ⟨_, _, blk_new W.drew _, ?_, ?_, ?_, ?_⟩
                      · rw [← bytesV_append, Array.toList_append, List.take_left']
                        rw [bytesV_length]
                      · simp [size_zeroCells, bytesV_length, hlz, hz2, hex]; omega
                      · simp [size_zeroCells, bytesV_length, hlz, hz2, hex, ByteArray.size_append]
                      · intro o ho h; omega
                    rw [hml] at hnew
                    refine ⟨upB2 B s.mem.length (grownCap W (len + m0) (B (id - 1)) e) W.heap.size, _, _, ?_, .inl rfl, hf.up2 h1, hnew, fun i hi => upB2_lt hi⟩
                    simp only [execOp, hq, resolve, hcal, hat, har, pure_bind, invoke, builtin]
                    simp [ev_den hf hx, ev_den hf hy, den, upB2_blk, upB2_cap] at hg ⊢
                    rw [hg]
                    rfl
                · cases h
              · cases h
            · cases h
        · cases h
      · cases h
    · cases h
  · cases h
end
theorem wantA_den {P : Program} {w0 : World} {ops : List Oper} {B : Nat → Nat} {env : Env} {a : Act} {o o' : Orc} {g : Option (Nat × Bool)} {b : Bool} {cs : List Cst} {q : Oper} (hg : q.guard = g) (hf : Fits B env a)
    (h : wantA ops env g o = some (b, o', cs)) (hc : Holds P w0 cs) (A : Array Oper) (hA : A.toList = ops) : Region.wanted q (yielded A a.tmps) = b := by
  unfold wantA at h
  split at h
  · cases h
    simp [Region.wanted, hg]
  · rename_i j want
    split at h
    · cases h
    · rename_i d hd
      split at h
      · rename_i t ht
        have := ask_den h hc
        rw [← this]
        have h1 := hf.tmp d _ ht
        have h2 : (A[j]?).bind (·.dst) = some d := by rw [← hd, ← hA]; simp
        simp [Region.wanted, hg, yielded, h2, h1, den]
      · rename_i ht
        cases h
        have h1 := hf.tmp d _ ht
        have h2 : (A[j]?).bind (·.dst) = some d := by rw [← hd, ← hA]; simp
        simp [Region.wanted, hg, yielded, h2, h1, den, denL]
      · cases h
theorem Holds.left {P : Program} {w0 : World} {a b : List Cst} (h : Holds P w0 (a ++ b)) : Holds P w0 a := fun c hc => h c (List.mem_append_left _ hc)
theorem Holds.right {P : Program} {w0 : World} {a b : List Cst} (h : Holds P w0 (a ++ b)) : Holds P w0 b := fun c hc => h c (List.mem_append_right _ hc)
theorem wp_of_quietAt {P : Program} {nin : Nat} {w0 : World} {q : Oper} {a : Act} {W : World} {B : Nat → Nat} {mem : Mem} {v : Value} {K : Act → World → Prop} {Q : Exit → Act → World → Prop} (hr : Rel w0 nin B mem W) (h : q.quietAt P a (Rel w0 nin B mem) W v)
    (hK : ∀ W', Rel w0 nin B mem W' → K (a.put q.dst v) W') : q.wp P a W K Q := by
  unfold Oper.quietAt at h
  unfold Oper.wp
  generalize (execOp a.eval q).run P W = r at *
  cases r with
  | ok n w' =>
    cases n <;> simp only [Oper.quietUpon] at h <;> simp only [Oper.upon]
    case value u => obtain ⟨rfl, rfl⟩ := h; exact hK _ hr
    case skip => obtain ⟨rfl, rfl⟩ := h; exact hK _ hr
    case enter f args =>
      obtain ⟨rfl, h⟩ := h
      exact h.mono fun e w'' ⟨he, hw⟩ => by subst he; exact hK _ hw
  | halt x w' => simp only [Oper.quietUpon] at h
/-- A loop whose body is about to be carried out. -/
def LoopFrom (P : Program) (c : Code) (Q : Exit → Act → World → Prop) (a : Act) (w : World) : Prop :=
  ∀ (b : Frame) (k : List Item) (cs : List Frame), ∃ e a' w', Q e a' w' ∧ Arrives P (lone (b.at a (.code c :: .inLoop c :: k)) cs w) b k cs e a' w'
theorem LoopFrom.wp {P : Program} {c : Code} {Q : Exit → Act → World → Prop} {a : Act} {w : World} (h : LoopFrom P c Q a w) : (Code.loop c).wp P Q a w := fun b k cs =>
  let ⟨e, a', w', q, r⟩ := h b k cs; ⟨e, a', w', q, .of_steps (.one step_loop) r⟩
theorem LoopFrom.step {P : Program} {c : Code} {Q : Exit → Act → World → Prop} {a : Act} {w : World} (h : c.wp P (Exit.then (LoopFrom P c Q) Q) a w) : LoopFrom P c Q a w := by
  intro b k cs
  obtain ⟨e, a₁, w₁, hq, harr⟩ := h b (.inLoop c :: k) cs
  cases e with
  | normal =>
    obtain ⟨e₂, a₂, w₂, hq₂, harr₂⟩ := hq b k cs
    exact ⟨e₂, a₂, w₂, hq₂, .of_steps (Steps.trans harr (.one step_inLoop)) harr₂⟩
  | exit id => exact ⟨_, a₁, w₁, hq, .pass (x := .inLoop c) rfl (fun _ _ => .inl (by simp)) harr⟩
  | goto l => exact ⟨_, a₁, w₁, hq, .pass (x := .inLoop c) rfl (fun _ _ => .inl (by simp)) harr⟩
  | ret => exact ⟨_, a₁, w₁, hq, .pass (x := .inLoop c) rfl (fun _ _ => .inl (by simp)) harr⟩
  | panic ch => exact ⟨_, a₁, w₁, hq, .pass (x := .inLoop c) rfl (fun _ _ => .inl (by simp)) harr⟩
  | outgrown => exact ⟨_, a₁, w₁, hq, .pass (x := .inLoop c) rfl (fun _ _ => .inl (by simp)) harr⟩
/-- What is asked of the program. -/
structure ProgOK (P : Program) (T : Tab) : Prop where
  tab : TabOK P T
  mixed : P.follows .mixedOrders = true
def Body (P : Program) (f : FuncId) : Prop := ∃ fn, P.funcs[f]? = some fn ∧ (fn.name == "runtime.NumGoroutine") = false ∧ fn.body.isNone = false
section
variable {P : Program} {T : Tab} (hT : ProgOK P T) {nin : Nat} {w0 : World} (h0 : nin = 0)
include hT h0
/-- An operation that leaves the memory alone, in every world that the abstract memory tells. -/
theorem quietA_den {s : St} {q : Oper} {v : AV} {o' : Orc} {cs : List Cst} (h : quietA T s q.op = some (v, o', cs)) (hc : Holds P w0 cs) {B : Nat → Nat} {a : Act} (hf : Fits B s.env a) :
    ∀ W, Rel w0 nin B s.mem W → q.quietAt P a (Rel w0 nin B s.mem) W (den B v) := by
  intro W hr
  subst h0
  unfold quietA at h
  split at h
  · rename_i r hp
    cases h
    have := pureA_den hT.tab hc hf hr.mem rfl hp
    simp [Oper.quietAt, Oper.quietUpon, this]
  · split at h
    · rename_i f args au bs r rs ss hcall ho
      cases h
      have hh := hc _ (List.mem_singleton.2 rfl)
      obtain ⟨hb, hh⟩ := hh
      have := callA_den (W := W) hf hb hcall
      simp only [Oper.quietAt, this, Oper.quietUpon]
      exact ⟨trivial, (hh B W hr.end).mono fun e w' ⟨he, hw⟩ => ⟨he, hr.below hw⟩⟩
    · cases h
theorem quietsA_den {A : Array Oper} {ops : List Oper} (hA : A.toList = ops) : ∀ {l : List Oper} {s s' : St} {cs : List Cst}, quietsA T ops l s = some (s', cs) → Holds P w0 cs → ∀ {B : Nat → Nat} {a : Act} {Q : Act → Prop}, Fits B s.env a →
    (∀ a', Fits B s'.env a' → Q a') → wpQuiet P A (Rel w0 nin B s.mem) Q l a ∧ s'.mem = s.mem
  | [], s, s', cs, h, hc, B, a, Q, hf, hQ => by
    cases h
    exact ⟨wpQuiet_nil (hQ a hf), rfl⟩
  | q :: l, s, s', cs, h, hc, B, a, Q, hf, hQ => by
    unfold quietsA at h
    split at h
    · cases h
    · rename_i r c hw
      split at h
      · rename_i s1 cs1 h1
        cases h
        have hwant := wantA_den rfl hf hw hc.left A hA
        have ih := quietsA_den hA h1 hc.right (B := B) (a := a.put q.dst undef) (Q := Q) (hf.put q.dst (.tup [])) hQ
        refine ⟨?_, ih.2⟩
        unfold wpQuiet
        rw [hwant]
        simp only [Bool.false_eq_true, if_false]
        exact ih.1
      · cases h
    · rename_i r c hw
      split at h
      · cases h
      · rename_i v r' c' hq
        split at h
        · rename_i s1 cs1 h1
          cases h
          have hwant := wantA_den rfl hf hw hc.left A hA
          have ih := quietsA_den hA h1 hc.right.right (B := B) (a := a.put q.dst (den B v)) (Q := Q) (hf.put q.dst v) hQ
          refine ⟨?_, ih.2⟩
          unfold wpQuiet
          rw [hwant]
          simp only [if_true]
          exact ⟨den B v, quietA_den hT h0 hq hc.right.left hf, ih.1⟩
        · cases h
theorem seqA_den {A : Array Oper} {ops : List Oper} (hA : A.toList = ops) {Q : Exit → Act → World → Prop} : ∀ {l : List Oper} {s s' : St} {cs : List Cst}, seqA T ops l s = some (s', cs) → Holds P w0 cs → ∀ {B : Nat → Nat} {a : Act} {W : World}, Fits B s.env a → Rel w0 nin B s.mem W →
    (∀ B' a' W', Fits B' s'.env a' → Rel w0 nin B' s'.mem W' → (∀ i, i < nin → B' i = B i) → Q .normal a' W') → wpList P A Q l a W
  | [], s, s', cs, h, hc, B, a, W, hf, hr, hQ => by
    cases h
    exact wpList_nil (hQ B a W hf hr fun _ _ => rfl)
  | q :: l, s, s', cs, h, hc, B, a, W, hf, hr, hQ => by
    unfold seqA at h
    refine wpList_step fun K hK => ?_
    split at h
    · cases h
    · rename_i r c hw
      split at h
      · rename_i s1 cs1 h1
        cases h
        have hwant := wantA_den rfl hf hw hc.left A hA
        rw [hwant]
        simp only [Bool.false_eq_true, if_false]
        exact hK _ _ (seqA_den hA h1 hc.right (hf.put q.dst (.tup [])) hr hQ)
      · cases h
    · rename_i r c hw
      have hwant := wantA_den (P := P) (w0 := w0) rfl hf hw
      split at h
      · rename_i v r' c' hq
        split at h
        · rename_i s1 cs1 h1
          cases h
          rw [hwant hc.left A hA]
          simp only [if_true]
          exact wp_of_quietAt hr (quietA_den hT h0 (s := ⟨s.env, s.mem, r⟩) hq hc.right.left hf W hr) fun W' hr' => hK _ _ (seqA_den hA h1 hc.right.right (hf.put q.dst v) hr' hQ)
        · cases h
      · split at h
        · rename_i v m r' c' hwr
          split at h
          · rename_i s1 cs1 h1
            cases h
            rw [hwant hc.left A hA]
            simp only [if_true]
            obtain ⟨B', W', nx, hx, hnx, hf', hr', hB⟩ := writeA_den hT.tab (s := ⟨s.env, s.mem, r⟩) hc.right.left hf hr hwr
            have hin : ∀ i, i < nin → B' i = B i := fun i hi => hB i (Nat.lt_of_lt_of_le hi hr.nin_le)
            have next : K (a.put q.dst (den B' v)) W' := hK _ _ (seqA_den hA h1 hc.right.right (hf'.put q.dst v) hr' fun B2 a2 W2 h2 h3 h4 => hQ B2 a2 W2 h2 h3 fun i hi => (h4 i hi).trans (hin i hi))
            unfold Oper.wp
            rw [hx]
            rcases hnx with rfl | ⟨rfl, rfl⟩
            · exact next
            · exact next
          · cases h
        · cases h
end
theorem maskA_tmp (ks : List Nat) : ∀ (env : Env) (i j : Nat) (x : AV), (maskA ks i env).tmp j = some x → env.tmp j = some x
  | [], i, j, x, h => by cases h
  | y :: r, i, 0, x, h => by
    simp only [maskA, Env.tmp] at h
    cases hm : memN ks i with
    | true => rw [hm] at h; exact h
    | false => rw [hm] at h; cases h
  | y :: r, i, j + 1, x, h => maskA_tmp ks r (i + 1) j x h
theorem maskA_length (ks : List Nat) : ∀ (env : Env) (i : Nat), (maskA ks i env).length = env.length
  | [], i => rfl
  | y :: r, i => by simp [maskA, maskA_length ks r (i + 1)]
theorem Fits.mask {B : Nat → Nat} {env : Env} {a : Act} (h : Fits B env a) (ks : List Nat) : Fits B (maskA ks 0 env) a :=
  ⟨h.defers, by rw [maskA_length]; exact h.size, fun i x hx => h.tmp i x (maskA_tmp ks env 0 i x hx)⟩
/-- A piece of code does what the abstract machine says. -/
theorem execA_den {P : Program} {T : Tab} (hT : ProgOK P T) {nin : Nat} {w0 : World} (h0 : nin = 0) : ∀ {n : Nat} {fl : Bool} {c : Code} {s s' : St} {e : Ex} {cs : List Cst}, execA T n fl c s = some (e, s', cs) → Holds P w0 cs → ∀ {B : Nat → Nat} {a : Act} {W : World} {Q : Exit → Act → World → Prop}, Fits B s.env a → Rel w0 nin B s.mem W →
    (∀ B' a' W', Fits B' s'.env a' → Rel w0 nin B' s'.mem W' → (∀ i, i < nin → B' i = B i) → Q (toExit e) a' W') → (fl = false → c.wp P Q a W) ∧ (fl = true → LoopFrom P c Q a W)
  | 0, fl, c, s, s', e, cs, h, hc, B, a, W, Q, hf, hr, hQ => by cases h
  | n + 1, true, x, s, s', e, cs, h, hc, B, a, W, Q, hf, hr, hQ => by
    refine ⟨nofun, fun _ => ?_⟩
    unfold execA at h
    split at h
    · rename_i s1 c1 h1
      split at h
      · rename_i e2 s2 c2 h2
        cases h
        exact LoopFrom.step ((execA_den hT h0 h1 hc.left hf hr fun B' a' W' hf' hr' hB => (execA_den hT h0 h2 hc.right hf' hr' fun B2 a2 W2 h3 h4 h5 => hQ B2 a2 W2 h3 h4 fun i hi => (h5 i hi).trans (hB i hi)).2 rfl).1 rfl)
      · cases h
    · rename_i hn
      refine LoopFrom.step ((execA_den hT h0 h hc hf hr fun B' a' W' hf' hr' hB => ?_).1 rfl)
      have := hQ B' a' W' hf' hr' hB
      cases e with
      | normal => exact (hn _ _ h).elim
      | exit id => exact this
      | ret => exact this
  | n + 1, false, c, s, s', e, cs, h, hc, B, a, W, Q, hf, hr, hQ => by
    refine ⟨fun _ => ?_, nofun⟩
    unfold execA at h
    simp only at h
    split at h
    · cases h; exact wp_skip (hQ B a W hf hr fun _ _ => rfl)
    · cases h; exact wp_ret (hQ B a W hf hr fun _ _ => rfl)
    · cases h; exact wp_exit (hQ B a W hf hr fun _ _ => rfl)
    · rename_i x y
      split at h
      · rename_i s1 c1 h1
        split at h
        · rename_i e2 s2 c2 h2
          cases h
          exact wp_seq ((execA_den hT h0 h1 hc.left hf hr fun B' a' W' hf' hr' hB => (execA_den hT h0 h2 hc.right hf' hr' fun B2 a2 W2 h3 h4 h5 => hQ B2 a2 W2 h3 h4 fun i hi => (h5 i hi).trans (hB i hi)).1 rfl).1 rfl)
        · cases h
      · rename_i hn
        refine wp_seq ((execA_den hT h0 h hc hf hr fun B' a' W' hf' hr' hB => ?_).1 rfl)
        have := hQ B' a' W' hf' hr' hB
        cases e with
        | normal => exact (hn _ _ h).elim
        | exit id => exact this
        | ret => exact this
    · rename_i x y z
      split at h
      · rename_i t ht
        have hev := ev_den hf ht
        split at h
        · rename_i o1 c1 ha
          split at h
          · rename_i e2 s2 c2 h2
            cases h
            have := ask_den ha hc.left
            subst this
            exact wp_cond_true hev ((execA_den hT h0 h2 hc.right hf hr hQ).1 rfl)
          · cases h
        · rename_i o1 c1 ha
          split at h
          · rename_i e2 s2 c2 h2
            cases h
            have := ask_den ha hc.left
            subst this
            exact wp_cond_false hev ((execA_den hT h0 h2 hc.right hf hr hQ).1 rfl)
          · cases h
        · cases h
      · cases h
    · rename_i id x
      split at h
      · rename_i i s1 c1 h1
        cases hb : Nat.beq i id with
        | true =>
          rw [hb] at h
          cases h
          exact wp_block ((execA_den hT h0 h1 hc hf hr fun B' a' W' hf' hr' hB => by
            simp only [toExit, Exit.inBlock, Nat.eq_of_beq_eq_true hb, if_true]
            exact hQ B' a' W' hf' hr' hB).1 rfl)
        | false =>
          rw [hb] at h
          cases h
          exact wp_block ((execA_den hT h0 h1 hc hf hr fun B' a' W' hf' hr' hB => by
            have hne : i ≠ id := by intro e; rw [e] at hb; simp at hb
            simp only [toExit, Exit.inBlock, if_neg hne]
            exact hQ B' a' W' hf' hr' hB).1 rfl)
      · rename_i hn
        refine wp_block ((execA_den hT h0 h hc hf hr fun B' a' W' hf' hr' hB => ?_).1 rfl)
        have := hQ B' a' W' hf' hr' hB
        cases e with
        | normal => exact this
        | exit id' => exact (hn _ _ _ h).elim
        | ret => exact this
    · rename_i x
      split at h
      · rename_i au bs rs ls ss ho
        cases h
        subst h0
        exact (hc _ (List.mem_singleton.2 rfl)) B a W Q (hf.mask ls.ks) hr fun B' a' W' hf' hr' => hQ B' a' W' hf' hr' fun i hi => absurd hi (Nat.not_lt_zero i)
      · rename_i au bs rs ss ho
        exact ((execA_den hT h0 (s := ⟨s.env, s.mem, ⟨au, bs, rs, ss⟩⟩) h hc hf hr hQ).2 rfl).wp
      · exact ((execA_den hT h0 h hc hf hr hQ).2 rfl).wp
    · rename_i f ps x y
      split at h
      · rename_i au bs rs ls ss ho
        cases h
        subst h0
        exact (hc _ (List.mem_singleton.2 rfl)) B a W Q (hf.mask ls.ks) hr fun B' a' W' hf' hr' => hQ B' a' W' hf' hr' fun i hi => absurd hi (Nat.not_lt_zero i)
      · cases h
    · rename_i id ops
      obtain ⟨⟨s1, c1⟩, h1, he⟩ := Option.map_eq_some_iff.1 h
      cases he
      exact wp_region_list (seqA_den hT h0 rfl h1 hc hf hr hQ)
    · rename_i id ops
      cases hB : Region.lexB .any ops with
      | false => rw [hB] at h; cases h
      | true =>
        rw [hB] at h
        obtain ⟨⟨s1, c1⟩, h1, he⟩ := Option.map_eq_some_iff.1 h
        cases he
        have hm := (quietsA_den hT h0 (A := ops) rfl h1 hc (B := B) (a := a) (Q := fun _ => True) (w0 := w0) (nin := nin) hf (fun _ _ => trivial)).2
        refine wp_region_quiet (C := Rel w0 nin B s.mem) hT.mixed hB hr.drew (quietsA_den hT h0 (A := ops) rfl h1 hc hf fun a' hf' W' hr' => ?_).1
        exact hQ B a' W' hf' (by rw [hm]; exact hr') fun _ _ => rfl
    · cases h
end Go.Proofs.YtodgioleaegpfaaDoor.Am
namespace Go.Proofs.YtodgioleaegpfaaDoor.Am
open Go Go.RowKit Go.Proofs.YtodgioleaegpfaaDoorW.PrintWords
set_option linter.unusedVariables false
set_option linter.unusedSimpArgs false
def entryA (fn : Func) (args : List AV) : Env := args.map some ++ List.replicate (fn.ntmps - args.length) (some (.tup []))
theorem entryA_fits (B : Nat → Nat) (fn : Func) (args : List AV) : Fits B (entryA fn args) { tmps := (denL B args).toArray ++ Array.replicate (fn.ntmps - (denL B args).toArray.size) undef, defers := [] } := by
  refine ⟨rfl, by simp [entryA, denL_length], fun i x hx => ?_⟩
  rw [Env.tmp_eq, entryA, List.getElem?_append] at hx
  simp only [Array.getElem?_append, List.size_toArray, denL_length]
  simp only [List.length_map] at hx
  by_cases h : i < args.length
  · rw [if_pos h] at hx ⊢
    simp only [List.getElem?_map] at hx
    simp only [List.getElem?_toArray, denL_get]
    cases e : args[i]? with
    | none => rw [e] at hx; cases hx
    | some y => rw [e] at hx; cases hx; rfl
  · rw [if_neg h] at hx ⊢
    rw [List.getElem?_replicate] at hx
    split at hx
    · rename_i h2
      cases hx
      rw [Array.getElem?_replicate, if_pos h2]
      rfl
    · cases hx
def resA (T : Tab) (s : St) : List ResultVar → Option (List AV)
  | [] => some []
  | .tmp t :: r => match s.env.tmp t, resA T s r with
    | some v, some vs => some (v :: vs)
    | _, _ => none
  | .cell p t :: r => match s.env.tmp p with
    | some (.ptr id off) => match s.mem.blk id, T.at t with
      | some b, some i => match (bif i.k.isAgg then (bif Nat.ble (off + i.size) b.cells.length then some (.agg ((b.cells.drop off).take i.size)) else none) else b.cells[off]?), resA T s r with
        | some v, some vs => some (v :: vs)
        | _, _ => none
      | _, _ => none
    | _ => none
def oneR : List AV → AV
  | [v] => v
  | vs => .tup vs
theorem resA_den {P : Program} {T : Tab} (hT : TabOK P T) {s : St} {B : Nat → Nat} {a : Act} {W : World} (hf : Fits B s.env a) (hm : MemOK B s.mem W) (g : ResultVar → Sem Value)
    (hg1 : ∀ t, g (.tmp t) = pure (a.tmps.getD t undef)) (hg2 : ∀ p t, g (.cell p t) = (asAddr (a.tmps.getD p undef) >>= fun x => loadVar t x)) : ∀ {l : List ResultVar} {rs : List AV}, resA T s l = some rs → (l.mapM g).run P W = .ok (denL B rs) W
  | [], rs, h => by cases h; simp [denL]
  | .tmp t :: r, rs, h => by
    unfold resA at h
    split at h
    · rename_i v vs hv hvs
      cases h
      have := hf.tmp t v hv
      simp [List.mapM_cons, hg1, this, resA_den hT hf hm g hg1 hg2 hvs, denL]
    · cases h
  | .cell p t :: r, rs, h => by
    unfold resA at h
    split at h
    · rename_i id off hp
      split at h
      · rename_i b i hb hi
        split at h
        · rename_i v vs hv hvs
          cases h
          have h1 := hf.tmp p _ hp
          have hl := run_load_den hT hm.blk (off := off) hb hi
          have hlv : (loadVar t ⟨B id, off, none⟩).run P W = .ok (den B v) W := by
            cases hk : i.k.isAgg with
            | true =>
              rw [hk] at hv
              simp only [cond_true] at hv
              cases hle : Nat.ble (off + i.size) b.cells.length with
              | false => rw [hle] at hv; cases hv
              | true =>
                rw [hle] at hv
                cases hv
                have := hl.1 hk (Nat.le_of_ble_eq_true hle)
                simpa [Instr.loadAt, Instr.sureAddr, den] using this
            | false =>
              rw [hk] at hv
              simp only [cond_false] at hv
              have := hl.2 hk v hv
              simpa [Instr.loadAt, Instr.sureAddr] using this
          simp [List.mapM_cons, hg2, h1, den, asAddr, hlv, resA_den hT hf hm g hg1 hg2 hvs, denL]
        · cases h
      · cases h
    · cases h
theorem results_den {P : Program} {T : Tab} (hT : TabOK P T) {fn : Func} {s : St} {B : Nat → Nat} {a : Act} {W : World} (hf : Fits B s.env a) (hm : MemOK B s.mem W) {rs : List AV} (h : resA T s fn.results.toList = some rs) :
    (results fn a.tmps).run P W = .ok (den B (oneR rs)) W := by
  unfold results
  rw [Sem.run_bind, Array.mapM_eq_mapM_toList, Sem.run_map, resA_den hT hf hm _ (fun t => rfl) (fun p t => rfl) h]
  simp only [Result.andThen_ok, Sem.run_pure]
  congr 1
  match rs with
  | [] => rfl
  | [v] => rfl
  | v :: u :: r => simp [oneR, denL, den]
/-- A function, called with values that name no block. -/
def runA (T : Tab) (fn : Func) (n : Nat) (args : List AV) (o : Orc) : Option (AV × List Cst) :=
  match fn.body with
  | none => none
  | some c => match execA T n false c ⟨entryA fn args, [], o⟩ with
    | some (.exit _, _, _) => none
    | some (_, s, cs) => match resA T s fn.results.toList with
      | some rs => bif lo 0 (oneR rs) then some (oneR rs, cs) else none
      | none => none
    | none => none
theorem runA_den {P : Program} {T : Tab} (hT : ProgOK P T) {f : FuncId} {fn : Func} (hfn : P.funcs[f]? = some fn) {n : Nat} {args : List AV} {o : Orc} {r : AV} {cs : List Cst} {W : World} (h : runA T fn n args o = some (r, cs)) (hc : Holds P W cs) :
    ∀ (B : Nat → Nat), Calls P f (denL B args).toArray W fun e w' => e = .returned (den B r) ∧ Below W.heap.size W w' := by
  intro B
  unfold runA at h
  split at h
  · cases h
  · rename_i c hb
    refine calls_of_wp hfn hb ?_
    have fin : ∀ (e : Ex) (s : St), (∀ id, e ≠ .exit id) → (∃ rs, resA T s fn.results.toList = some rs ∧ lo 0 (oneR rs) = true ∧ oneR rs = r) → ∀ B' a' W', Fits B' s.env a' → Rel W 0 B' s.mem W' →
        bodyPost P fn (fun e w' => e = .returned (den B r) ∧ Below W.heap.size W w') (toExit e) a' W' := by
      intro e s he ⟨rs, h1, h2, h3⟩ B' a' W' hf' hr'
      have hres := results_den hT.tab (fn := fn) hf' hr'.mem h1
      have hd : den B' (oneR rs) = den B r := by
        rw [h3] at h2 ⊢
        exact (den_same (n := 0) (B := B) (B' := B') (fun i hi => absurd hi (Nat.not_lt_zero i)) r h2)
      rw [hd] at hres
      cases e with
      | normal => exact ⟨hf'.defers, _, hres, rfl, hr'.end⟩
      | ret => exact ⟨hf'.defers, _, hres, rfl, hr'.end⟩
      | exit id => exact absurd rfl (he id)
    split at h
    · cases h
    · rename_i e s cs' hne hx
      split at h
      · rename_i rs hrs
        cases hl : lo 0 (oneR rs) with
        | false => rw [hl] at h; cases h
        | true =>
          rw [hl] at h
          cases h
          exact (execA_den hT rfl hx hc (entryA_fits B fn args) (Rel.start W B) fun B' a' W' hf' hr' _ => fin e s (fun id he => hne id he) ⟨rs, hrs, hl, rfl⟩ B' a' W' hf' hr').1 rfl
      · cases h
    · cases h
end Go.Proofs.YtodgioleaegpfaaDoor.Am
namespace Go.Proofs.YtodgioleaegpfaaDoor.Am
open Go Go.RowKit Go.Proofs.YtodgioleaegpfaaDoorW.PrintWords
set_option linter.unusedVariables false
set_option linter.unusedSimpArgs false
theorem holds_nil {P : Program} {w0 : World} : Holds P w0 [] := fun c hc => by cases hc
theorem holds_cons {P : Program} {w0 : World} {c : Cst} {cs : List Cst} (h : c.holds P w0) (hs : Holds P w0 cs) : Holds P w0 (c :: cs) := fun d hd => (List.mem_cons.1 hd).elim (fun e => e ▸ h) (hs d)
theorem not_of {b v : Bool} (h : b = !v) : (!b) = v := by rw [h]; cases v <;> rfl
theorem is_of {b w x v : Bool} (h : b = x) (e : (x == w) = v := by rfl) : (b == w) = v := by rw [h]; exact e
theorem bb_of {x y a b v : Bool} (hx : x = a) (hy : y = b) (e : (a == b) = v := by rfl) : (x == y) = v := by rw [hx, hy]; exact e
theorem and_tt {a b : Bool} (ha : a = true) (hb : b = true) : (a && b) = true := by rw [ha, hb]; rfl
theorem and_ff {a b : Bool} (ha : a = false) : (a && b) = false := by rw [ha]; rfl
theorem and_fr {a b : Bool} (hb : b = false) : (a && b) = false := by rw [hb]; cases a <;> rfl
/-- A run of a piece of code, of which only some temporaries are kept behind it. -/
def execM (T : Tab) (n : Nat) (ks : List Nat) (c : Code) (env : Env) (mem : Mem) (o : Orc) : Option (Ex × Env × Mem × List Cst) :=
  match execA T n false c ⟨env, mem, o⟩ with
  | some (e, s, cs) => some (e, maskA ks 0 s.env, s.mem, cs)
  | none => none
theorem execM_den {P : Program} {w0 : World} {T : Tab} (hT : ProgOK P T) {n : Nat} {ks : List Nat} {c : Code} {env env' : Env} {mem mem' : Mem} {o : Orc} {e : Ex} {cs : List Cst} (h : execM T n ks c env mem o = some (e, env', mem', cs)) (hc : Holds P w0 cs) :
    CodeOK P w0 c env mem e env' mem' := by
  intro B a W Q hf hr hQ
  unfold execM at h
  split at h
  · rename_i e1 s1 c1 h1
    cases h
    exact (execA_den hT rfl h1 hc hf hr fun B' a' W' hf' hr' hB => hQ B' a' W' (hf'.mask ks) hr').1 rfl
  · cases h
theorem code_seq {P : Program} {w0 : World} {c d : Code} {env env1 env2 : Env} {mem mem1 mem2 : Mem} {e : Ex} (h1 : CodeOK P w0 c env mem .normal env1 mem1) (h2 : CodeOK P w0 d env1 mem1 e env2 mem2) : CodeOK P w0 (.seq c d) env mem e env2 mem2 := by
  intro B a W Q hf hr hQ
  exact wp_seq (h1 B a W _ hf hr fun B' a' W' hf' hr' => h2 B' a' W' Q hf' hr' hQ)
/-- A loop of N rounds. -/
theorem loop_rule {P : Program} {w0 : World} {c : Code} {S : Nat → Env} {M : Nat → Mem} {N : Nat} {mem' : Mem} {ex : Ex} {env' : Env} (hex : ex ≠ .normal)
    (hround : ∀ k, k < N → CodeOK P w0 c (S k) (M k) .normal (S (k + 1)) (M (k + 1))) (hend : CodeOK P w0 c (S N) (M N) ex env' mem') : CodeOK P w0 (.loop c) (S 0) (M 0) ex env' mem' := by
  intro B a W Q hf hr hQ
  have key : ∀ d k, k + d = N → ∀ B' a' W', Fits B' (S k) a' → Rel w0 0 B' (M k) W' → LoopFrom P c Q a' W' := by
    intro d
    induction d with
    | zero =>
      intro k hk B1 a1 W1 h1 h2
      obtain rfl : k = N := by omega
      refine LoopFrom.step (hend B1 a1 W1 _ h1 h2 fun B' a' W' hf' hr' => ?_)
      have := hQ B' a' W' hf' hr'
      cases ex with
      | normal => exact absurd rfl hex
      | exit id => exact this
      | ret => exact this
    | succ d ih =>
      intro k hk B1 a1 W1 h1 h2
      exact LoopFrom.step (hround k (by omega) B1 a1 W1 _ h1 h2 fun B' a' W' hf' hr' => ih (k + 1) (by omega) B' a' W' hf' hr')
  exact (key N 0 (by omega) B a W hf hr).wp
theorem sinkV_den {n j c g : Nat} {B : Nat → Nat} {v w : AV} (hc : c = B (j - 1)) (hg : g = B j) (h : sinkV n j v = some w) : den (upB2 B n c g) w = den B v := by
  have old : ∀ x : AV, lo n x = true → den (upB2 B n c g) x = den B x := fun x hx => den_same (B := B) (fun i hi => upB2_lt hi) x hx
  have gen : ∀ x : AV, (bif lo n x then some x else none) = some w → den (upB2 B n c g) w = den B x := by
    intro x hx
    cases e : lo n x with
    | false => rw [e] at hx; cases hx
    | true =>
      rw [e] at hx
      obtain rfl := Option.some.inj hx
      exact old _ e
  cases v with
  | buf id len =>
    simp only [sinkV] at h
    cases e : Nat.beq id j with
    | true =>
      rw [e] at h
      obtain rfl := Nat.eq_of_beq_eq_true e
      cases h
      simp [den, upB2_blk, upB2_cap, hc, hg]
    | false =>
      rw [e] at h
      exact gen (.buf id len) h
  | bool b => exact gen _ h
  | int k m => exact gen _ h
  | str s => exact gen _ h
  | ptr id o => exact gen _ h
  | nilp => exact gen _ h
  | slice id o l c => exact gen _ h
  | nils => exact gen _ h
  | fn f x y => exact gen _ h
  | nilf => exact gen _ h
  | agg cs => exact gen _ h
  | tup vs => exact gen _ h
theorem sinkEnv_tmp {n j : Nat} : ∀ {env : Env} {i : Nat} {x : AV}, (sinkEnv n j env).tmp i = some x → ∃ v, env.tmp i = some v ∧ sinkV n j v = some x
  | [], i, x, h => by cases h
  | none :: r, 0, x, h => by cases h
  | none :: r, i + 1, x, h => sinkEnv_tmp (env := r) h
  | some v :: r, 0, x, h => ⟨v, rfl, h⟩
  | some v :: r, i + 1, x, h => sinkEnv_tmp (env := r) h
theorem sinkEnv_length {n j : Nat} : ∀ (env : Env), (sinkEnv n j env).length = env.length
  | [] => rfl
  | none :: r => by simp [sinkEnv, sinkEnv_length r]
  | some v :: r => by simp [sinkEnv, sinkEnv_length r]
theorem Mem.at_take {m : Mem} {n i : Nat} {b : MB} (h : Mem.at (m.take n) i = some b) : i < n ∧ m.at i = some b := by
  rw [Mem.at_eq, List.getElem?_take] at h
  split at h
  · rename_i e; exact ⟨e, by rw [Mem.at_eq]; exact h⟩
  · cases h
theorem sink_den {w0 W : World} {B : Nat → Nat} {mem mem' : Mem} {n j : Nat} {env : Env} {a : Act} (h : sinkMem n j mem = some mem') (hf : Fits B env a) (hr : Rel w0 0 B mem W) :
    Fits (upB2 B n (B (j - 1)) (B j)) (sinkEnv n j env) a ∧ Rel w0 0 (upB2 B n (B (j - 1)) (B j)) mem' W := by
  unfold sinkMem at h
  split at h
  · rename_i s e hj
    cases hcc : (loMem n (mem.take n) && Nat.ble n (mem.take n).length && Nat.blt n j) with
    | false => rw [hcc] at h; cases h
    | true =>
      rw [hcc] at h
      cases h
      simp only [Bool.and_eq_true, Nat.ble_eq, Nat.blt_eq] at hcc
      obtain ⟨⟨hlo, hle⟩, hnj⟩ := hcc
      have hlen : (mem.take n).length = n := by rw [List.length_take] at hle ⊢; omega
      refine ⟨⟨hf.defers, by rw [sinkEnv_length]; exact hf.size, fun i x hx => ?_⟩, ?_⟩
      · obtain ⟨v, hv, hs⟩ := sinkEnv_tmp hx
        rw [hf.tmp i v hv, sinkV_den rfl rfl hs]
      · have hB : ∀ i, i < n → upB2 B n (B (j - 1)) (B j) i = B i := fun i hi => upB2_lt hi
        have hat : ∀ i b, Mem.at (mem.take n ++ [none, some (.bytes s e)]) i = some b → (i = n + 1 ∧ b = .bytes s e) ∨ (i < n ∧ mem.at i = some b) := by
          intro i b hi
          have h1 : (mem.take n ++ [none, some (.bytes s e)] : Mem) = (mem.take n ++ [none]) ++ [some (.bytes s e)] := by simp
          rw [h1, Mem.at_push] at hi
          split at hi
          · rename_i e1
            exact .inl ⟨by simpa [hlen] using e1, (Option.some.inj hi).symm⟩
          · rw [Mem.at_push0] at hi
            exact .inr (Mem.at_take hi)
        have lom : ∀ i b, i < n → mem.at i = some (.exact b) → loL n b.cells = true := by
          intro i b hi hb
          refine loMem_at (i := i) hlo ?_
          rw [Mem.at_eq, List.getElem?_take, if_pos hi, ← Mem.at_eq]
          exact hb
        refine ⟨hr.os, hr.tape, hr.output, hr.size, fun k hk hi => hr.frame k hk fun i hi' => absurd hi' (Nat.not_lt_zero i), ?_, ?_, ?_, ?_, Nat.zero_le _⟩
        · intro i b hi
          rcases hat i _ (Mem.blk_at hi) with ⟨-, h1⟩ | ⟨h1, h2⟩
          · cases h1
          · rw [hB i h1, denL_same (B := B) hB _ (lom i b h1 h2)]
            exact hr.blk i b (Mem.blk_of h2)
        · intro i s' e' hi
          rcases hat i _ (Mem.byt_at hi) with ⟨rfl, h1⟩ | ⟨h1, h2⟩
          · cases h1
            obtain ⟨cs, fr, g1, g2, g3, g4⟩ := hr.byt j s e (Mem.byt_of hj)
            exact ⟨cs, fr, by rw [upB2_blk]; exact g1, g2, by rw [Nat.add_sub_cancel, upB2_cap]; exact g3, g4⟩
          · obtain ⟨cs, fr, g1, g2, g3, g4⟩ := hr.byt i s' e' (Mem.byt_of h2)
            exact ⟨cs, fr, by rw [hB i h1]; exact g1, g2, by rw [hB (i - 1) (by omega)]; exact g3, g4⟩
        · intro i k b b' hi hk e1
          rcases hat i b hi with ⟨rfl, -⟩ | ⟨h1, h2⟩ <;> rcases hat k b' hk with ⟨rfl, -⟩ | ⟨k1, k2⟩
          · rfl
          · rw [upB2_blk, hB k k1] at e1
            have := hr.inj j k _ _ hj k2 e1
            omega
          · rw [upB2_blk, hB i h1] at e1
            have := hr.inj i j _ _ h2 hj e1
            omega
          · rw [hB i h1, hB k k1] at e1
            exact hr.inj i k _ _ h2 k2 e1
        · intro i b hle' hi
          rcases hat i b hi with ⟨rfl, -⟩ | ⟨h1, h2⟩
          · rw [upB2_blk]
            rcases hr.fresh j _ (Nat.zero_le _) hj with h | ⟨k, hk, -⟩
            · exact .inl h
            · exact absurd hk (Nat.not_lt_zero k)
          · rw [hB i h1]
            rcases hr.fresh i b (Nat.zero_le _) h2 with h | ⟨k, hk, -⟩
            · exact .inl h
            · exact absurd hk (Nat.not_lt_zero k)
  · cases h
/-- A run, told by older numbers behind it. -/
def execS (T : Tab) (n : Nat) (ks : List Nat) (i j : Nat) (c : Code) (env : Env) (mem : Mem) (o : Orc) : Option (Ex × Env × Mem × List Cst) :=
  match execM T n ks c env mem o with
  | some (e, env', mem', cs) => match sinkMem i j mem' with
    | some m => some (e, sinkEnv i j env', m, cs)
    | none => none
  | none => none
theorem execS_den {P : Program} {w0 : World} {T : Tab} (hT : ProgOK P T) {n : Nat} {ks : List Nat} {i j : Nat} {c : Code} {env env' : Env} {mem mem' : Mem} {o : Orc} {e : Ex} {cs : List Cst} (h : execS T n ks i j c env mem o = some (e, env', mem', cs)) (hc : Holds P w0 cs) :
    CodeOK P w0 c env mem e env' mem' := by
  unfold execS at h
  split at h
  · rename_i e1 env1 mem1 cs1 h1
    split at h
    · rename_i m hm
      cases h
      intro B a W Q hf hr hQ
      refine execM_den hT h1 hc B a W Q hf hr fun B' a' W' hf' hr' => ?_
      have := sink_den hm hf' hr'
      exact hQ _ a' W' this.1 this.2
    · cases h
  · cases h
/-- The bodies of the loops of a piece of code, in the order of the text. -/
def loopsOf : Code → List Code
  | .seq a b => loopsOf a ++ loopsOf b
  | .cond _ a b => loopsOf a ++ loopsOf b
  | .block _ a => loopsOf a
  | .loop a => a :: loopsOf a
  | .scope a => loopsOf a
  | _ => []
def loopNo (fn : Func) (k : Nat) : Code := ((loopsOf (fn.body.getD .skip))[k]?).getD .skip
end Go.Proofs.YtodgioleaegpfaaDoor.Am
