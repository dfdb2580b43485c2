/- What 'simp' needs to reckon a body, and library functions without a Go body. Plain: no program in sight. -/
import Derived.Test.YticlgpdmelhbhaaXQ
import Derived.Laws.Externs
import Derived.KernelRfl
namespace Go.X

def quietO : OR → Option (AV × List Blk)
  | .val v [] nw => some (v, nw)
  | _ => none
@[simp] theorem doOp_move {T : TT} {S : ST} {s : St} {d ty pos af gu x} : doOp T S ⟨d, .move x, ty, pos, af, gu⟩ s = ofOR d s (opA T s.mem s.m.length (evA s.ts) (.move x)) := rfl
@[simp] theorem doQ_move {T : TT} {S : ST} {s : St} {d ty pos af gu x} : doQ T S ⟨d, .move x, ty, pos, af, gu⟩ s = quietO (opA T s.mem s.m.length (evA s.ts) (.move x)) := rfl
@[simp] theorem doOp_assign {T : TT} {S : ST} {s : St} {d ty pos af gu x} : doOp T S ⟨d, .assign x, ty, pos, af, gu⟩ s = ofOR d s (opA T s.mem s.m.length (evA s.ts) (.assign x)) := rfl
@[simp] theorem doQ_assign {T : TT} {S : ST} {s : St} {d ty pos af gu x} : doQ T S ⟨d, .assign x, ty, pos, af, gu⟩ s = quietO (opA T s.mem s.m.length (evA s.ts) (.assign x)) := rfl
@[simp] theorem doOp_pick {T : TT} {S : ST} {s : St} {d ty pos af gu c a b} : doOp T S ⟨d, .pick c a b, ty, pos, af, gu⟩ s = ofOR d s (opA T s.mem s.m.length (evA s.ts) (.pick c a b)) := rfl
@[simp] theorem doQ_pick {T : TT} {S : ST} {s : St} {d ty pos af gu c a b} : doQ T S ⟨d, .pick c a b, ty, pos, af, gu⟩ s = quietO (opA T s.mem s.m.length (evA s.ts) (.pick c a b)) := rfl
@[simp] theorem doOp_alloc {T : TT} {S : ST} {s : St} {d ty pos af gu e} : doOp T S ⟨d, .alloc e, ty, pos, af, gu⟩ s = ofOR d s (opA T s.mem s.m.length (evA s.ts) (.alloc e)) := rfl
@[simp] theorem doQ_alloc {T : TT} {S : ST} {s : St} {d ty pos af gu e} : doQ T S ⟨d, .alloc e, ty, pos, af, gu⟩ s = quietO (opA T s.mem s.m.length (evA s.ts) (.alloc e)) := rfl
@[simp] theorem doOp_box {T : TT} {S : ST} {s : St} {d ty pos af gu e x} : doOp T S ⟨d, .box e x, ty, pos, af, gu⟩ s = ofOR d s (opA T s.mem s.m.length (evA s.ts) (.box e x)) := rfl
@[simp] theorem doQ_box {T : TT} {S : ST} {s : St} {d ty pos af gu e x} : doQ T S ⟨d, .box e x, ty, pos, af, gu⟩ s = quietO (opA T s.mem s.m.length (evA s.ts) (.box e x)) := rfl
@[simp] theorem doOp_build {T : TT} {S : ST} {s : St} {d ty pos af gu t ps} : doOp T S ⟨d, .build t ps, ty, pos, af, gu⟩ s = ofOR d s (opA T s.mem s.m.length (evA s.ts) (.build t ps)) := rfl
@[simp] theorem doQ_build {T : TT} {S : ST} {s : St} {d ty pos af gu t ps} : doQ T S ⟨d, .build t ps, ty, pos, af, gu⟩ s = quietO (opA T s.mem s.m.length (evA s.ts) (.build t ps)) := rfl
@[simp] theorem doOp_buildSlice {T : TT} {S : ST} {s : St} {d ty pos af gu t n ps} : doOp T S ⟨d, .buildSlice t n ps, ty, pos, af, gu⟩ s = ofOR d s (opA T s.mem s.m.length (evA s.ts) (.buildSlice t n ps)) := rfl
@[simp] theorem doQ_buildSlice {T : TT} {S : ST} {s : St} {d ty pos af gu t n ps} : doQ T S ⟨d, .buildSlice t n ps, ty, pos, af, gu⟩ s = quietO (opA T s.mem s.m.length (evA s.ts) (.buildSlice t n ps)) := rfl
@[simp] theorem doOp_load {T : TT} {S : ST} {s : St} {d ty pos af gu t a} : doOp T S ⟨d, .load t a, ty, pos, af, gu⟩ s = ofOR d s (opA T s.mem s.m.length (evA s.ts) (.load t a)) := rfl
@[simp] theorem doQ_load {T : TT} {S : ST} {s : St} {d ty pos af gu t a} : doQ T S ⟨d, .load t a, ty, pos, af, gu⟩ s = quietO (opA T s.mem s.m.length (evA s.ts) (.load t a)) := rfl
@[simp] theorem doOp_store {T : TT} {S : ST} {s : St} {d ty pos af gu t a x} : doOp T S ⟨d, .store t a x, ty, pos, af, gu⟩ s = ofOR d s (opA T s.mem s.m.length (evA s.ts) (.store t a x)) := rfl
@[simp] theorem doQ_store {T : TT} {S : ST} {s : St} {d ty pos af gu t a x} : doQ T S ⟨d, .store t a x, ty, pos, af, gu⟩ s = quietO (opA T s.mem s.m.length (evA s.ts) (.store t a x)) := rfl
@[simp] theorem doOp_nilCheck {T : TT} {S : ST} {s : St} {d ty pos af gu x} : doOp T S ⟨d, .nilCheck x, ty, pos, af, gu⟩ s = ofOR d s (opA T s.mem s.m.length (evA s.ts) (.nilCheck x)) := rfl
@[simp] theorem doQ_nilCheck {T : TT} {S : ST} {s : St} {d ty pos af gu x} : doQ T S ⟨d, .nilCheck x, ty, pos, af, gu⟩ s = quietO (opA T s.mem s.m.length (evA s.ts) (.nilCheck x)) := rfl
@[simp] theorem doOp_binOp {T : TT} {S : ST} {s : St} {d ty pos af gu op t x y u} : doOp T S ⟨d, .binOp op t x y u, ty, pos, af, gu⟩ s = ofOR d s (opA T s.mem s.m.length (evA s.ts) (.binOp op t x y u)) := rfl
@[simp] theorem doQ_binOp {T : TT} {S : ST} {s : St} {d ty pos af gu op t x y u} : doQ T S ⟨d, .binOp op t x y u, ty, pos, af, gu⟩ s = quietO (opA T s.mem s.m.length (evA s.ts) (.binOp op t x y u)) := rfl
@[simp] theorem doOp_unOp {T : TT} {S : ST} {s : St} {d ty pos af gu op t x} : doOp T S ⟨d, .unOp op t x, ty, pos, af, gu⟩ s = ofOR d s (opA T s.mem s.m.length (evA s.ts) (.unOp op t x)) := rfl
@[simp] theorem doQ_unOp {T : TT} {S : ST} {s : St} {d ty pos af gu op t x} : doQ T S ⟨d, .unOp op t x, ty, pos, af, gu⟩ s = quietO (opA T s.mem s.m.length (evA s.ts) (.unOp op t x)) := rfl
@[simp] theorem doOp_convert {T : TT} {S : ST} {s : St} {d ty pos af gu a b x} : doOp T S ⟨d, .convert a b x, ty, pos, af, gu⟩ s = ofOR d s (opA T s.mem s.m.length (evA s.ts) (.convert a b x)) := rfl
@[simp] theorem doQ_convert {T : TT} {S : ST} {s : St} {d ty pos af gu a b x} : doQ T S ⟨d, .convert a b x, ty, pos, af, gu⟩ s = quietO (opA T s.mem s.m.length (evA s.ts) (.convert a b x)) := rfl
@[simp] theorem doOp_makeInterface {T : TT} {S : ST} {s : St} {d ty pos af gu t x} : doOp T S ⟨d, .makeInterface t x, ty, pos, af, gu⟩ s = ofOR d s (opA T s.mem s.m.length (evA s.ts) (.makeInterface t x)) := rfl
@[simp] theorem doQ_makeInterface {T : TT} {S : ST} {s : St} {d ty pos af gu t x} : doQ T S ⟨d, .makeInterface t x, ty, pos, af, gu⟩ s = quietO (opA T s.mem s.m.length (evA s.ts) (.makeInterface t x)) := rfl
@[simp] theorem doOp_makeFunc {T : TT} {S : ST} {s : St} {d ty pos af gu f a b} : doOp T S ⟨d, .makeFunc f a b, ty, pos, af, gu⟩ s = ofOR d s (opA T s.mem s.m.length (evA s.ts) (.makeFunc f a b)) := rfl
@[simp] theorem doQ_makeFunc {T : TT} {S : ST} {s : St} {d ty pos af gu f a b} : doQ T S ⟨d, .makeFunc f a b, ty, pos, af, gu⟩ s = quietO (opA T s.mem s.m.length (evA s.ts) (.makeFunc f a b)) := rfl
@[simp] theorem doOp_makeSlice {T : TT} {S : ST} {s : St} {d ty pos af gu t l c} : doOp T S ⟨d, .makeSlice t l c, ty, pos, af, gu⟩ s = ofOR d s (opA T s.mem s.m.length (evA s.ts) (.makeSlice t l c)) := rfl
@[simp] theorem doQ_makeSlice {T : TT} {S : ST} {s : St} {d ty pos af gu t l c} : doQ T S ⟨d, .makeSlice t l c, ty, pos, af, gu⟩ s = quietO (opA T s.mem s.m.length (evA s.ts) (.makeSlice t l c)) := rfl
@[simp] theorem doOp_slice {T : TT} {S : ST} {s : St} {d ty pos af gu t x lo hi mx} : doOp T S ⟨d, .slice t x lo hi mx, ty, pos, af, gu⟩ s = ofOR d s (opA T s.mem s.m.length (evA s.ts) (.slice t x lo hi mx)) := rfl
@[simp] theorem doQ_slice {T : TT} {S : ST} {s : St} {d ty pos af gu t x lo hi mx} : doQ T S ⟨d, .slice t x lo hi mx, ty, pos, af, gu⟩ s = quietO (opA T s.mem s.m.length (evA s.ts) (.slice t x lo hi mx)) := rfl
@[simp] theorem doOp_fieldAddr {T : TT} {S : ST} {s : St} {d ty pos af gu a x f} : doOp T S ⟨d, .fieldAddr a x f, ty, pos, af, gu⟩ s = ofOR d s (opA T s.mem s.m.length (evA s.ts) (.fieldAddr a x f)) := rfl
@[simp] theorem doQ_fieldAddr {T : TT} {S : ST} {s : St} {d ty pos af gu a x f} : doQ T S ⟨d, .fieldAddr a x f, ty, pos, af, gu⟩ s = quietO (opA T s.mem s.m.length (evA s.ts) (.fieldAddr a x f)) := rfl
@[simp] theorem doOp_field {T : TT} {S : ST} {s : St} {d ty pos af gu a x f} : doOp T S ⟨d, .field a x f, ty, pos, af, gu⟩ s = ofOR d s (opA T s.mem s.m.length (evA s.ts) (.field a x f)) := rfl
@[simp] theorem doQ_field {T : TT} {S : ST} {s : St} {d ty pos af gu a x f} : doQ T S ⟨d, .field a x f, ty, pos, af, gu⟩ s = quietO (opA T s.mem s.m.length (evA s.ts) (.field a x f)) := rfl
@[simp] theorem doOp_indexAddr {T : TT} {S : ST} {s : St} {d ty pos af gu t x i} : doOp T S ⟨d, .indexAddr t x i, ty, pos, af, gu⟩ s = ofOR d s (opA T s.mem s.m.length (evA s.ts) (.indexAddr t x i)) := rfl
@[simp] theorem doQ_indexAddr {T : TT} {S : ST} {s : St} {d ty pos af gu t x i} : doQ T S ⟨d, .indexAddr t x i, ty, pos, af, gu⟩ s = quietO (opA T s.mem s.m.length (evA s.ts) (.indexAddr t x i)) := rfl
@[simp] theorem doOp_index {T : TT} {S : ST} {s : St} {d ty pos af gu t x i} : doOp T S ⟨d, .index t x i, ty, pos, af, gu⟩ s = ofOR d s (opA T s.mem s.m.length (evA s.ts) (.index t x i)) := rfl
@[simp] theorem doQ_index {T : TT} {S : ST} {s : St} {d ty pos af gu t x i} : doQ T S ⟨d, .index t x i, ty, pos, af, gu⟩ s = quietO (opA T s.mem s.m.length (evA s.ts) (.index t x i)) := rfl
@[simp] theorem doOp_extract {T : TT} {S : ST} {s : St} {d ty pos af gu x i} : doOp T S ⟨d, .extract x i, ty, pos, af, gu⟩ s = ofOR d s (opA T s.mem s.m.length (evA s.ts) (.extract x i)) := rfl
@[simp] theorem doQ_extract {T : TT} {S : ST} {s : St} {d ty pos af gu x i} : doQ T S ⟨d, .extract x i, ty, pos, af, gu⟩ s = quietO (opA T s.mem s.m.length (evA s.ts) (.extract x i)) := rfl
@[simp] theorem doOp_typeAssert {T : TT} {S : ST} {s : St} {d ty pos af gu x a t ok} : doOp T S ⟨d, .typeAssert x a t ok, ty, pos, af, gu⟩ s = ofOR d s (opA T s.mem s.m.length (evA s.ts) (.typeAssert x a t ok)) := rfl
@[simp] theorem doQ_typeAssert {T : TT} {S : ST} {s : St} {d ty pos af gu x a t ok} : doQ T S ⟨d, .typeAssert x a t ok, ty, pos, af, gu⟩ s = quietO (opA T s.mem s.m.length (evA s.ts) (.typeAssert x a t ok)) := rfl
@[simp] theorem doOp_panic {T : TT} {S : ST} {s : St} {d ty pos af gu x} : doOp T S ⟨d, .panic x, ty, pos, af, gu⟩ s = ofOR d s (opA T s.mem s.m.length (evA s.ts) (.panic x)) := rfl
@[simp] theorem doQ_panic {T : TT} {S : ST} {s : St} {d ty pos af gu x} : doQ T S ⟨d, .panic x, ty, pos, af, gu⟩ s = quietO (opA T s.mem s.m.length (evA s.ts) (.panic x)) := rfl
@[simp] theorem doOp_builtin {T : TT} {S : ST} {s : St} {d ty pos af gu b as ts} : doOp T S ⟨d, .call ⟨.builtin b, as, ts⟩, ty, pos, af, gu⟩ s = ofOR d s (opA T s.mem s.m.length (evA s.ts) (.call ⟨.builtin b, as, ts⟩)) := rfl
@[simp] theorem doQ_builtin {T : TT} {S : ST} {s : St} {d ty pos af gu b as ts} : doQ T S ⟨d, .call ⟨.builtin b, as, ts⟩, ty, pos, af, gu⟩ s = quietO (opA T s.mem s.m.length (evA s.ts) (.call ⟨.builtin b, as, ts⟩)) := rfl
/-- a call -/
def callA (S : ST) (args : List AV) (s : St) : AV → Option CR
  | .fn id cap => match S id with
    | some g => if solidL (args ++ cap) then some (g (args ++ cap) (envOf s.mem (refsL (args ++ cap))) s.m.length) else none
    | none => none
  | _ => none
def callO (d : Option Tmp) (s : St) : Option CR → Out
  | some r => ofCR d s r
  | none => .fail
def callQ : Option CR → Option (AV × List Blk)
  | some r => quiet r
  | none => none
@[simp] theorem doOp_call {T : TT} {S : ST} {s : St} {d ty pos af gu f as ts} : doOp T S ⟨d, .call ⟨.value f, as, ts⟩, ty, pos, af, gu⟩ s = callO d s (callA S (as.toList.map (evA s.ts)) s (evA s.ts f)) := by
  simp only [doOp, callA]
  cases evA s.ts f with
  | fn id cap =>
    dsimp only
    cases S id with
    | none => rfl
    | some g => dsimp only; split <;> rfl
  | _ => rfl
@[simp] theorem doQ_call {T : TT} {S : ST} {s : St} {d ty pos af gu f as ts} : doQ T S ⟨d, .call ⟨.value f, as, ts⟩, ty, pos, af, gu⟩ s = callQ (callA S (as.toList.map (evA s.ts)) s (evA s.ts f)) := by
  simp only [doQ, callA]
  cases evA s.ts f with
  | fn id cap =>
    dsimp only
    cases S id with
    | none => rfl
    | some g => dsimp only; split <;> rfl
  | _ => rfl
@[simp] theorem callA_fn {S : ST} {args : List AV} {s : St} {id : FuncId} {cap : List AV} : callA S args s (.fn id cap) = match S id with
    | some g => if solidL (args ++ cap) then some (g (args ++ cap) (envOf s.mem (refsL (args ++ cap))) s.m.length) else none
    | none => none := rfl
@[simp] theorem doOp_defer {T : TT} {S : ST} {s : St} {d ty pos af gu f as ts} : doOp T S ⟨d, .defer ⟨.value f, as, ts⟩, ty, pos, af, gu⟩ s = match evA s.ts f with
    | .fn id cap => if as.isEmpty then .fin .norm (St.put { s with df := (id, cap) :: s.df } d (.tup [])) else .fail
    | _ => .fail := rfl
@[simp] theorem opsA_nil {T : TT} {S : ST} {ops : Array Oper} {s : St} : opsA T S ops [] s = .fin .norm s := rfl
@[simp] theorem opsA_free {T : TT} {S : ST} {ops : Array Oper} {d op ty pos af rest} {s : St} : opsA T S ops (⟨d, op, ty, pos, af, none⟩ :: rest) s = (doOp T S ⟨d, op, ty, pos, af, none⟩ s).bind (opsA T S ops rest) := rfl
@[simp] theorem qStep_free {T : TT} {S : ST} {ops : Array Oper} {d op ty pos af} {s : St} : qStep T S ops ⟨d, op, ty, pos, af, none⟩ s = doQ T S ⟨d, op, ty, pos, af, none⟩ s := rfl
@[simp] theorem put_some {ts : List AV} {m : List Blk} {df : List (FuncId × List AV)} {t : Tmp} {v : AV} : St.put ⟨ts, m, df⟩ (some t) v = ⟨ts.set t v, m, df⟩ := rfl
@[simp] theorem put_none {s : St} {v : AV} : s.put none v = s := rfl
@[simp] theorem ofOR_pure {d : Option Tmp} {ts : List AV} {m : List Blk} {df : List (FuncId × List AV)} {v : AV} : ofOR d ⟨ts, m, df⟩ (.val v [] []) = .fin .norm (St.put ⟨ts, m, df⟩ d v) := by simp [ofOR, upM]
@[simp] theorem ofCR_pure {d : Option Tmp} {ts : List AV} {m : List Blk} {df : List (FuncId × List AV)} {v : AV} : ofCR d ⟨ts, m, df⟩ (.val v [] []) = .fin .norm (St.put ⟨ts, m, df⟩ d v) := by simp [ofCR, upM]
@[simp] theorem quietO_pure {v : AV} {nw : List Blk} : quietO (.val v [] nw) = some (v, nw) := rfl
@[simp] theorem quiet_pure {v : AV} {nw : List Blk} : quiet (.val v [] nw) = some (v, nw) := rfl

section
variable {T : TT} {S : ST} {L : Nat → Option DM} {n : Nat} {s : St}
@[simp] theorem exec_skip : exec T S L n .skip s = .fin .norm s := rfl
@[simp] theorem exec_label {i} : exec T S L n (.label i) s = .fin .norm s := rfl
@[simp] theorem exec_region {i ops} : exec T S L n (.region i ops false) s = opsA T S ops ops.toList s := rfl
@[simp] theorem exec_draw {i ops} : exec T S L n (.region i ops true) s = drawA T S (L i) ops s := rfl
@[simp] theorem exec_seq {a b} : exec T S L n (.seq a b) s = (exec T S L n a s).bind (exec T S L n b) := rfl
@[simp] theorem exec_cond {c x y} : exec T S L n (.cond c x y) s = match evA s.ts c with
    | .bool b => if b = true then exec T S L n x s else exec T S L n y s
    | _ => .fail := rfl
@[simp] theorem exec_block {i c} : exec T S L n (.block i c) s = unblock i (exec T S L n c s) := rfl
@[simp] theorem exec_loop {c} : exec T S L n (.loop c) s = loopA (exec T S L n c) n s := rfl
@[simp] theorem loopA_succ {f : St → Out} {k : Nat} : loopA f (k + 1) s = (f s).bind (loopA f k) := rfl
@[simp] theorem exec_exit {i} : exec T S L n (.exit i) s = .fin (.exit i) s := rfl
@[simp] theorem exec_ret : exec T S L n .ret s = .fin .ret s := rfl
@[simp] theorem opsA_guard {ops : Array Oper} {d op ty pos af j want rest} : opsA T S ops (⟨d, op, ty, pos, af, some (j, want)⟩ :: rest) s = match (ops[j]?).bind (·.dst) with
      | none => opsA T S ops rest (s.put d (.tup []))
      | some e => match s.ts.getD e .undef with
        | .bool b => if b = want then (doOp T S ⟨d, op, ty, pos, af, some (j, want)⟩ s).bind (opsA T S ops rest) else opsA T S ops rest (s.put d (.tup []))
        | .undef => .fail
        | _ => opsA T S ops rest (s.put d (.tup [])) := rfl
@[simp] theorem evA_tmp {ts : List AV} {t : Tmp} : evA ts (.tmp t) = ts.getD t .undef := rfl
@[simp] theorem evA_const {ts : List AV} {v : Value} : evA ts (.const v) = absV v := rfl
@[simp] theorem evA_func {ts : List AV} {f : FuncId} : evA ts (.func f) = .fn f [] := rfl
variable {rs : List ResultVar} {R R' : AV → List Blk → Prop}
@[simp] theorem Ends_norm : Ends T rs R R' .norm s ↔ s.df = [] ∧ ∃ v, resA T s rs = some v ∧ R v s.m := Iff.rfl
@[simp] theorem Ends_ret : Ends T rs R R' .ret s ↔ s.df = [] ∧ ∃ v, resA T s rs = some v ∧ R v s.m := Iff.rfl
@[simp] theorem Ends_pan {v} : Ends T rs R R' (.pan v) s ↔ s.df = [] ∧ R' v s.m := Iff.rfl
@[simp] theorem Ends_exit {i} : Ends T rs R R' (.exit i) s ↔ False := Iff.rfl
end
@[simp] theorem seq_norm {f : St → Prop} {Q : Ex → St → Prop} {s : St} : Ex.seq f Q .norm s ↔ f s := Iff.rfl
@[simp] theorem seq_ret {f : St → Prop} {Q : Ex → St → Prop} {s : St} : Ex.seq f Q .ret s ↔ Q .ret s := Iff.rfl
@[simp] theorem seq_exit {f : St → Prop} {Q : Ex → St → Prop} {s : St} {i} : Ex.seq f Q (.exit i) s ↔ Q (.exit i) s := Iff.rfl
@[simp] theorem seq_pan {f : St → Prop} {Q : Ex → St → Prop} {s : St} {v} : Ex.seq f Q (.pan v) s ↔ Q (.pan v) s := Iff.rfl
@[simp] theorem St.mem_mk {ts : List AV} {m : List Blk} {df : List (FuncId × List AV)} {b : Nat} : St.mem ⟨ts, m, df⟩ b = m[b]? := rfl
@[simp] theorem stOf_nil {f : FuncId} : stOf [] f = none := rfl
@[simp] theorem stOf_cons {f k : FuncId} {g : Sum} {l : List (FuncId × Sum)} : stOf ((k, g) :: l) f = if k = f then some g else stOf l f := by
  unfold stOf
  by_cases h : k = f
  · subst h; simp
  · have : (k == f) = false := by simpa using h
    simp [List.find?, this, h]
/-- what a pure function is said to be, as calls take it -/
def prC : PR → CR
  | .val v => .val v [] []
  | .pan v => .pan v [] []
  | .fail => .fail
@[simp] theorem pureS_app {g : List AV → PR} {args : List AV} {env : Nat → Option Blk} {n : Nat} : pureS g args env n = prC (g args) := by
  unfold pureS prC
  cases g args <;> rfl
@[simp] theorem envOf_app {mem : Mem} {l : List Nat} {b : Nat} : envOf mem l b = if b ∈ l then mem b else none := rfl
/-- either -/
def both (a b : Out) : Out := .any fun n => if n = 0 then a else b
@[simp] theorem allOf_one {a : Out} : allOf [a] = a := rfl
@[simp] theorem allOf_two {a b : Out} {l : List Out} : allOf (a :: b :: l) = both a (allOf (b :: l)) := rfl
@[simp] theorem both_bind {a b : Out} {f : St → Out} : (both a b).bind f = both (a.bind f) (b.bind f) := by
  show Out.any _ = Out.any _
  congr 1; funext n; by_cases h : n = 0 <;> simp [h]
@[simp] theorem both_unblock {a b : Out} {id : Nat} : unblock id (both a b) = both (unblock id a) (unblock id b) := by
  show Out.any _ = Out.any _
  congr 1; funext n; by_cases h : n = 0 <;> simp [h]
@[simp] theorem good_both {a b : Out} {Q : Ex → St → Prop} : Good (both a b) Q ↔ Good a Q ∧ Good b Q := by
  constructor
  · intro h; exact ⟨h 0, h 1⟩
  · rintro ⟨h, k⟩ n
    by_cases hn : n = 0
    · simp only [hn, if_true]; exact h
    · simp only [hn, if_false]; exact k
@[simp] theorem pickO_nil {ops : Array Oper} : pickO ops [] = [] := rfl
@[simp] theorem pickO_cons {ops : Array Oper} {i : Nat} {p : List Nat} : pickO ops (i :: p) = match ops[i]? with | some o => o :: pickO ops p | none => pickO ops p := by
  unfold pickO
  cases h : ops[i]? <;> simp [h]
attribute [simp] opA ofOR ofCR Out.bind Good upM callO callQ items solid solidL refs refsL absV loadA TK.agg readRow readCell cut width widthL isC binA intBin intA boolBin ifBin aggBin unA pickA
  resA resL res1 okv initS writeRow asAgg fillA intsOf prC unblock drawA qopsA qStep floA without normOnly eqA eqItems flatI explode copies packI sliceA evF

@[simp] theorem wrap_i64_in {n : Int} (h1 : -9223372036854775808 ≤ n) (h2 : n < 9223372036854775808) : IntKind.i64.wrap n = n := by
  rw [IntKind.wrap_i64]; omega
@[simp] theorem wrap_u64_in {n : Int} (h1 : 0 ≤ n) (h2 : n < 18446744073709551616) : IntKind.u64.wrap n = n := by
  simp only [IntKind.wrap, IntKind.signed, IntKind.bits]
  simp
  omega
theorem wrap_u64_mod (n : Int) : IntKind.u64.wrap n = n % 18446744073709551616 := by
  simp [IntKind.wrap, IntKind.signed, IntKind.bits]

/-- carry adding -/
def add64S : List AV → PR
  | [.int .u64 x, .int .u64 y, .int .u64 c] => if 0 ≤ x ∧ 0 ≤ y ∧ 0 ≤ c ∧ c ≤ 1 then .val (.tup [.int .u64 ((x + y + c) % 18446744073709551616), .int .u64 ((x + y + c) / 18446744073709551616)]) else .fail
  | _ => .fail
@[simp] theorem add64S_val {x : Int} {y : Int} {c : Int} (h : 0 ≤ x ∧ 0 ≤ y ∧ 0 ≤ c ∧ c ≤ 1) : add64S [.int .u64 x, .int .u64 y, .int .u64 c] = .val (.tup [.int .u64 ((x + y + c) % 18446744073709551616), .int .u64 ((x + y + c) / 18446744073709551616)]) := if_pos h

theorem add64_ok {P : Program} {f : FuncId} {fn : Func} (hf : P.funcs[f]? = some fn) (hn : (fn.name == "runtime.NumGoroutine") = false) (hb : fn.body.isNone = true) (h1 : (Extern.findNext fn).isNone = true) (h2 : Extern.find fn = some add64Entry) : SumOk P f (pureS add64S) := by
  intro args D ρ0 w0 ρ mem nxt w hnf hso hrf hfr hi
  have hx : ∃ x y c, args = [.int .u64 x, .int .u64 y, .int .u64 c] ∧ (0 ≤ x ∧ 0 ≤ y ∧ 0 ≤ c ∧ c ≤ 1) := by
    simp only [pureS] at hnf
    unfold add64S at hnf
    split at hnf
    · rename_i v hv
      split at hv
      · split at hv
        · exact ⟨_, _, _, rfl, by assumption⟩
        · simp at hv
      · simp at hv
    · rename_i v hv
      split at hv
      · split at hv <;> simp at hv
      · simp at hv
    · simp at hnf
  obtain ⟨x, y, c, rfl, hx, hy, hc0, hc⟩ := hx
  have h1' : Extern.findNext fn = none := by simpa using h1
  refine .inl ⟨.tuple #[.int .u64 ((x + y + c) % 18446744073709551616), .int .u64 ((x + y + c) / 18446744073709551616)], w, ?_, ?_⟩
  · simp only [callFunc, Sem.run_bind, run_program, Result.andThen_ok, hf, hn, hb, Bool.false_eq_true, if_false, if_true, run_mark, h1', h2]
    have := run_add64 (P := P) x y c hx hy hc0 hc w
    simp only [List.map_cons, List.map_nil, conc, this, Result.andThen_ok, Sem.run_pure]
  · simp only [pureS, add64S, hx, hy, hc0, hc, and_self, if_true]
    refine ⟨ρ, _, rfl, .inr ⟨rfl, by simp, by simp⟩, by simp, ?_, ?_⟩
    · rw [memNew_nil, memUp_nil]; exact hi
    · rw [memNew_nil, memUp_nil]; exact Later.refl _ _

end Go.X
