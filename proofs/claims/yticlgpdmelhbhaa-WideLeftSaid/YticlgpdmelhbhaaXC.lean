/- The operations on abstract values, and that the machine's own do the same. Plain: no program in sight. -/
import Derived.Test.YticlgpdmelhbhaaXB
namespace Go.X

/-- what an operation comes to: a value, rows of cells put in others' places, new blocks; or a panic -/
inductive OR where
  | val (v : AV) (up : List (Nat × List AV)) (nw : List Blk)
  | pan (v : AV) (up : List (Nat × List AV)) (nw : List Blk)
  | fail

/-- constants -/
def absV : Value → AV
  | .bool b => .bool b
  | .int k n => .int k n
  | .pointer none => .nilptr
  | .slice none 0 0 => .nilslice
  | .nilFunc => .nilfn
  | .nilIface => .nilif
  | .iface t (.agg ⟨[]⟩) => .iface t (.agg [])
  | .agg ⟨[]⟩ => .agg []
  | _ => .undef

def evA (ts : List AV) : Operand → AV
  | .tmp t => ts.getD t .undef
  | .const v => absV v
  | .global _ => .undef
  | .func f => .fn f []

def pickA (c : Bool) : AV → AV → AV
  | .bool x, .bool y => .bool (bif c then x else y)
  | a, b => bif c then a else b

def bitsA (op : BinOp) (k : IntKind) (a b : Int) : Int :=
  match op with
  | .and => k.wrap (BitVec.ofInt k.bits a &&& BitVec.ofInt k.bits b).toNat
  | .or => k.wrap (BitVec.ofInt k.bits a ||| BitVec.ofInt k.bits b).toNat
  | .xor => k.wrap (BitVec.ofInt k.bits a ^^^ BitVec.ofInt k.bits b).toNat
  | _ => k.wrap (BitVec.ofInt k.bits a &&& ~~~ BitVec.ofInt k.bits b).toNat
def shlA (k : IntKind) (a : Int) (n : Nat) : Int := k.wrap (a * 2 ^ (min n k.bits))
def shrA (k : IntKind) (a : Int) (n : Nat) : Int := a.fdiv (2 ^ (min n k.bits))

def eqArr (n : Nat) (f g : Nat → Int) : Bool := (List.range n).all fun i => f i == g i
def eqItems : List AV → List AV → Option Bool
  | [], [] => some true
  | .int k a :: l, .int k' b :: m => if k = k' then (eqItems l m).map fun r => a == b && r else none
  | .arr k n f :: l, .arr k' n' g :: m => if k = k' ∧ n = n' then (eqItems l m).map fun r => eqArr n f g && r else none
  | _, _ => none
def flatI : List AV → List AV
  | [] => []
  | .arr k n f :: l => explode k n f ++ flatI l
  | v :: l => v :: flatI l
def eqA (l m : List AV) : Option Bool :=
  match eqItems l m with
  | some r => some r
  | none => eqItems (flatI l) (flatI m)

/-- operators on two numbers of one kind -/
def intA (op : BinOp) (k : IntKind) (a b : Int) : Option AV :=
  match op with
  | .add => some (.int k (k.wrap (a + b)))
  | .sub => some (.int k (k.wrap (a - b)))
  | .mul => some (.int k (k.wrap (a * b)))
  | .quo => if b = 0 then none else some (.int k (k.wrap (a.tdiv b)))
  | .rem => if b = 0 then none else some (.int k (a.tmod b))
  | .and => some (.int k (bitsA .and k a b))
  | .or => some (.int k (bitsA .or k a b))
  | .xor => some (.int k (bitsA .xor k a b))
  | .andNot => some (.int k (bitsA .andNot k a b))
  | .eql => some (.bool (a == b))
  | .neq => some (.bool (a != b))
  | .lss => some (.bool (decide (a < b)))
  | .leq => some (.bool (decide (a ≤ b)))
  | .gtr => some (.bool (decide (a > b)))
  | .geq => some (.bool (decide (a ≥ b)))
  | _ => none

def intBin (op : BinOp) (k : IntKind) (a : Int) (k' : IntKind) (b : Int) : Option AV :=
  match op with
  | .shl => if b < 0 then none else some (.int k (shlA k a b.toNat))
  | .shr => if b < 0 then none else some (.int k (shrA k a b.toNat))
  | op => if k = k' then intA op k a b else none
def boolBin (i : Option TI) (op : BinOp) (a b : Bool) : Option AV :=
  match i with
  | some ⟨.bool, _, _, _⟩ => match op with
    | .eql => some (.bool (a == b))
    | .neq => some (.bool (!(a == b)))
    | _ => none
  | _ => none
def ifBin (i : Option TI) (op : BinOp) (r : Bool) : Option AV :=
  match i with
  | some ⟨.iface, _, _, _⟩ => match op with
    | .eql => some (.bool r)
    | .neq => some (.bool !r)
    | _ => none
  | _ => none
def aggBin (i : Option TI) (op : BinOp) (x y : AV) : Option AV :=
  match i with
  | some ⟨kd, n, _, true⟩ => if kd.agg ∧ width x = n ∧ width y = n then match op with
    | .eql => (eqA (items x) (items y)).map AV.bool
    | .neq => (eqA (items x) (items y)).map fun r => .bool !r
    | _ => none
    else none
  | _ => none
def isC : Operand → Bool
  | .const _ => true
  | _ => false
/-- 'c': one of them is written as a literal -/
def binA (T : TT) (c : Bool) (op : BinOp) (t : TypeId) : AV → AV → Option AV
  | .int k a, .int k' b => intBin op k a k' b
  | .bool a, .bool b => boolBin (T t) op a b
  | .iface _ _, .nilif => ifBin (T t) op false
  | .nilif, .nilif => if c then ifBin (T t) op true else none
  | .arr k n f, .arr k' n' g => aggBin (T t) op (.arr k n f) (.arr k' n' g)
  | .arr k n f, .agg l => aggBin (T t) op (.arr k n f) (.agg l)
  | .agg l, .arr k n f => aggBin (T t) op (.agg l) (.arr k n f)
  | .agg l, .agg m => aggBin (T t) op (.agg l) (.agg m)
  | _, _ => none

def unA : UnOp → AV → Option AV
  | .neg, .int k n => some (.int k (k.wrap (0 - n)))
  | .xor, .int k n => some (.int k (bitsA .xor k (if k.signed then -1 else k.max) n))
  | .not, .bool b => some (.bool !b)
  | _, _ => none

/-- parts put in their places -/
def fillA (place : Nat → Option (Nat × Nat)) : List AV → List (Nat × AV) → Option (List AV)
  | l, [] => some l
  | l, (i, v) :: rest =>
    match place i with
    | none => none
    | some (o, n) => if solid v && width v == n then match writeRow l o (items v) with
      | some l' => fillA place l' rest
      | none => none
      else none

/-- all numbers of one kind: an array of them -/
def packI (l : List AV) : List AV :=
  match l with
  | .int k _ :: _ => match intsOf k l with
    | some xs => [.arr k xs.length fun i => xs.getD i 0]
    | none => l
  | l => l

def copies (n : Nat) (v : AV) : List AV :=
  match v with
  | .int k x => [.arr k n fun _ => x]
  | v => (List.replicate n (items v)).flatten

def loadA (T : TT) (mem : Mem) (t : TypeId) : AV → Option AV
  | .ptr b o => match T t, mem b with
    | some i, some blk => if i.kind.agg then (readRow blk.items o i.size).map asAgg else readCell blk.items o
    | _, _ => none
  | _ => none

def sliceA (es cap : Nat) (b o : Nat) (l h : Int) : Option AV :=
  if 0 ≤ l ∧ l ≤ h ∧ h ≤ cap then some (.slice b (if (cap : Int) = l then o else o + l.toNat * es) (h.toNat - l.toNat) (cap - l.toNat)) else none

def opA (T : TT) (mem : Mem) (nxt : Nat) (ev : Operand → AV) : Op → OR
  | .move x | .assign x => .val (ev x) [] []
  | .pick c a b => match ev c with
    | .bool c => .val (pickA c (ev a) (ev b)) [] []
    | _ => .fail
  | .alloc e => match T e with
    | some i => .val (.ptr nxt 0) [] [⟨items i.zero, e⟩]
    | none => .fail
  | .box e x => if solid (ev x) then .val (.ptr nxt 0) [] [⟨items (ev x), e⟩] else .fail
  | .build t parts => match T t with
    | some ⟨.struct fs, _, z, _⟩ => match fillA (fun i => (fs[i]?).map fun f => (f.1, f.2.1)) (items z) (parts.toList.map fun p => (p.1, ev p.2)) with
      | some l => .val (asAgg l) [] []
      | none => .fail
    | some ⟨.array _ es _, _, z, _⟩ => match fillA (fun i => some (i * es, es)) (items z) (parts.toList.map fun p => (p.1, ev p.2)) with
      | some l => .val (asAgg l) [] []
      | none => .fail
    | _ => .fail
  | .buildSlice t n parts => match T t with
    | some ⟨.slice e es _ ez, _, _, _⟩ => if n * es ≤ 65536 ∧ 0 < es then match fillA (fun i => some (i * es, es)) (List.replicate n (items ez)).flatten (parts.toList.map fun p => (p.1, ev p.2)) with
      | some l => .val (.slice nxt 0 n n) [] [⟨packI l, e⟩]
      | none => .fail
      else .fail
    | _ => .fail
  | .load t a => match loadA T mem t (ev a) with
    | some v => .val v [] []
    | none => .fail
  | .store t a x => match ev a, T t with
    | .ptr b o, some i => match mem b with
      | some blk => if solid (ev x) && width (ev x) == i.size then match writeRow blk.items o (items (ev x)) with
        | some l => .val (.tup []) [(b, l)] []
        | none => .fail
        else .fail
      | none => .fail
    | _, _ => .fail
  | .nilCheck x => match ev x with
    | .ptr b o => .val (.ptr b o) [] []
    | .fn f cap => .val (.fn f cap) [] []
    | _ => .fail
  | .binOp op t x y _ => match binA T (isC x || isC y) op t (ev x) (ev y) with
    | some v => .val v [] []
    | none => .fail
  | .unOp op _ x => match unA op (ev x) with
    | some v => .val v [] []
    | none => .fail
  | .convert s d x => match T s, T d, ev x with
    | some _, some ⟨.int k, _, _, _⟩, .int _ n => .val (.int k (k.wrap n)) [] []
    | _, _, _ => .fail
  | .makeInterface t x => match T t with
    | some ⟨.iface, _, _, _⟩ | some ⟨.other, _, _, _⟩ | none => .fail
    | some _ => if solid (ev x) then .val (.iface t (ev x)) [] [] else .fail
  | .makeFunc (.func f) first cap => if first.isEmpty && solidL (cap.toList.map ev) then .val (.fn f (cap.toList.map ev)) [] [] else .fail
  | .makeSlice t l c => match T t, ev l, ev c with
    | some ⟨.slice e es eb ez, _, _, _⟩, .int _ n, .int _ m =>
      if 0 ≤ n ∧ n ≤ m ∧ m ≤ 68719476736 ∧ eb ≤ 256 ∧ 0 < es then .val (.slice nxt 0 n.toNat m.toNat) [] [⟨copies m.toNat ez, e⟩] else .fail
    | _, _, _ => .fail
  | .slice t x lo hi none => match T t, ev x, lo.map ev, hi.map ev with
    | some ⟨.slice _ es _ _, _, _, _⟩, .slice b o len cap, none, none => match sliceA es cap b o 0 len with | some v => .val v [] [] | none => .fail
    | some ⟨.slice _ es _ _, _, _, _⟩, .slice b o len cap, some (.int _ l), none => match sliceA es cap b o l len with | some v => .val v [] [] | none => .fail
    | some ⟨.slice _ es _ _, _, _, _⟩, .slice b o _ cap, none, some (.int _ h) => match sliceA es cap b o 0 h with | some v => .val v [] [] | none => .fail
    | some ⟨.slice _ es _ _, _, _, _⟩, .slice b o _ cap, some (.int _ l), some (.int _ h) => match sliceA es cap b o l h with | some v => .val v [] [] | none => .fail
    | some ⟨.array n es _, _, _, _⟩, .ptr b o, none, none => match sliceA es n b o 0 n with | some v => .val v [] [] | none => .fail
    | _, _, _, _ => .fail
  | .fieldAddr s x f => match T s, ev x with
    | some ⟨.struct fs, _, _, _⟩, .ptr b o => match fs[f]? with
      | some (off, n, _) => if n = 0 then .fail else .val (.ptr b (o + off)) [] []
      | none => .fail
    | _, _ => .fail
  | .field s x f => match T s with
    | some ⟨.struct fs, sz, _, _⟩ => match fs[f]?, ev x with
      | some (off, n, true), .agg l => if widthL l = sz then match readRow l off n with | some a => .val (asAgg a) [] [] | none => .fail else .fail
      | some (off, _, false), .agg l => if widthL l = sz then match readCell l off with | some a => .val a [] [] | none => .fail else .fail
      | some (off, n, true), .arr k m g => if m = sz then match readRow [.arr k m g] off n with | some a => .val (asAgg a) [] [] | none => .fail else .fail
      | _, _ => .fail
    | _ => .fail
  | .indexAddr t x ix => match T t, ev x, ev ix with
    | some ⟨.array n es _, _, _, _⟩, .ptr b o, .int _ i => if 0 ≤ i ∧ i < n then .val (.ptr b (o + i.toNat * es)) [] [] else .fail
    | some ⟨.slice _ es _ _, _, _, _⟩, .slice b o n _, .int _ i => if 0 ≤ i ∧ i < n then .val (.ptr b (o + i.toNat * es)) [] [] else .fail
    | _, _, _ => .fail
  | .index t x ix => match T t, ev ix with
    | some ⟨.array n es ea, _, _, _⟩, .int _ i => if 0 ≤ i ∧ i < n then match ea, ev x with
      | true, .agg l => match readRow l (i.toNat * es) es with | some a => .val (asAgg a) [] [] | none => .fail
      | false, .agg l => match readCell l (i.toNat * es) with | some a => .val a [] [] | none => .fail
      | false, .arr k m g => if i.toNat * es < m then .val (.int k (g (i.toNat * es))) [] [] else .fail
      | _, _ => .fail
      else .fail
    | _, _ => .fail
  | .extract x i => match ev x with
    | .tup l => match l[i]? with
      | some v => .val v [] []
      | none => .fail
    | _ => .fail
  | .typeAssert x _ t ok => match T t, ev x with
    | some ⟨.iface, _, _, _⟩, _ | some ⟨.other, _, _, _⟩, _ | none, _ => .fail
    | some i, .iface u v => if u = t then (if ok then .val (.tup [v, .bool true]) [] [] else .val v [] []) else (if ok then .val (.tup [i.zero, .bool false]) [] [] else .fail)
    | _, _ => .fail
  | .panic x => match ev x with
    | .iface t v => .pan (.iface t v) [] []
    | _ => .fail
  | .call { callee := .builtin .len, args, argTypes } => match argTypes[0]?.bind T, (args[0]?).map ev with
    | some ⟨.slice .., _, _, _⟩, some (.slice _ _ n _) => .val (.int .i64 n) [] []
    | some ⟨.slice .., _, _, _⟩, some .nilslice => .val (.int .i64 0) [] []
    | some ⟨.array n _ _, _, _, _⟩, some _ => .val (.int .i64 n) [] []
    | _, _ => .fail
  | .call { callee := .builtin .min, args, argTypes := _ } => match args.toList.map ev with
    | [.int k a, .int _ b] => .val (.int k (if b < a then b else a)) [] []
    | [.int k a, .int _ b, .int _ c] => let m := if b < a then b else a; .val (.int k (if c < m then c else m)) [] []
    | _ => .fail
  | .call { callee := .builtin .max, args, argTypes := _ } => match args.toList.map ev with
    | [.int k a, .int _ b] => .val (.int k (if b > a then b else a)) [] []
    | [.int k a, .int _ b, .int _ c] => let m := if b > a then b else a; .val (.int k (if c > m then c else m)) [] []
    | _ => .fail
  | _ => .fail

end Go.X
