/- Code walked by calculation: regions, branches, blocks, loops, bodies. Plain: no program in sight. -/
import Derived.Test.YticlgpdmelhbhaaXI
import Derived.Orders
namespace Go.X

def quiet : CR → Option (AV × List Blk)
  | .val v [] nw => some (v, nw)
  | _ => none
def doQ (T : TT) (S : ST) (o : Oper) (s : St) : Option (AV × List Blk) :=
  match o.op with
  | .call { callee := .value f, args, argTypes := _ } => match evA s.ts f with
    | .fn id cap => match S id with
      | some g => if solidL (args.toList.map (evA s.ts) ++ cap) then quiet (g (args.toList.map (evA s.ts) ++ cap) (envOf s.mem (refsL (args.toList.map (evA s.ts) ++ cap))) s.m.length) else none
      | none => none
    | _ => none
  | .defer _ => none
  | op => match opA T s.mem s.m.length (evA s.ts) op with
    | .val v [] nw => some (v, nw)
    | _ => none
def qStep (T : TT) (S : ST) (ops : Array Oper) (o : Oper) (s : St) : Option (AV × List Blk) :=
  match o.guard with
  | none => doQ T S o s
  | some (j, want) => match (ops[j]?).bind (·.dst) with
    | none => some (.tup [], [])
    | some d => match s.ts.getD d .undef with
      | .bool b => if b = want then doQ T S o s else some (.tup [], [])
      | .undef => none
      | _ => some (.tup [], [])
/-- a region that draws its order: so many operations that write nothing that was there, then such as stand behind all the others -/
def qopsA (T : TT) (S : ST) (ops : Array Oper) : Nat → List Oper → St → Out
  | 0, l, s => opsA T S ops l s
  | _ + 1, [], s => .fin .norm s
  | k + 1, o :: rest, s => match qStep T S ops o s with
    | some (v, nw) => if (refs v).all (fun b => decide (b < s.m.length + nw.length)) then qopsA T S ops k rest (St.put { s with m := s.m ++ nw } o.dst v) else .fail
    | none => .fail

/-- the region without it -/
def without (ops : Array Oper) (f : Nat) : Array Oper := ops.modify f fun o => { o with dst := none }
def normOnly : Out → Out
  | .fin .norm s => .fin .norm s
  | .fin _ _ => .fail
  | .any k => .any fun n => normOnly (k n)
  | .fail => .fail
/-- the reckoning: the copy first -/
def floA (T : TT) (S : ST) (ops : Array Oper) (k f : Nat) (s : St) : Out :=
  match ops[f]? with
  | some o => match o.op with
    | .move x => normOnly (qopsA T S (without ops f) k (without ops f).toList (s.put o.dst (evA s.ts x)))
    | _ => .fail
  | none => .fail

/-- each of them -/
def allOf : List Out → Out
  | [] => .fail
  | [a] => a
  | a :: b :: l => .any fun n => if n = 0 then a else allOf (b :: l)
def pickO (ops : Array Oper) (p : List Nat) : List Oper := p.filterMap (ops[·]?)
/-- how a region that draws its order is taken: so many of it in whatever order; with one bare copy that comes first; in each of these orders; with one operation, of the first ones, that may come behind what writes, and is taken as soon as it is ready -/
inductive DM where
  | quiet (k : Nat)
  | flo (k f : Nat)
  | orders (l : List (List Nat))
  | eager (k f : Nat)

/-- 'none': all of it in whatever order -/
def drawA (T : TT) (S : ST) (d : Option DM) (ops : Array Oper) (s : St) : Out :=
  match d with
  | none => qopsA T S ops ops.size ops.toList s
  | some (.quiet k) => qopsA T S ops k ops.toList s
  | some (.flo k f) => floA T S ops k f s
  | some (.orders l) => allOf (l.map fun p => opsA T S ops (pickO ops p) s)
  | some (.eager k _) => normOnly (qopsA T S ops k ops.toList s)

def loopA (f : St → Out) : Nat → St → Out
  | 0, _ => .fail
  | n + 1, s => (f s).bind (loopA f n)

def unblock (id : Nat) : Out → Out
  | .fin (.exit i) s => if i = id then .fin .norm s else .fin (.exit i) s
  | .fin x s => .fin x s
  | .any k => .any fun n => unblock id (k n)
  | .fail => .fail

/-- 'L': of a region that draws its order, how it is taken; 'n': how many rounds a loop may take -/
def exec (T : TT) (S : ST) (L : Nat → Option DM) (n : Nat) : Code → St → Out
  | .skip, s => .fin .norm s
  | .label _, s => .fin .norm s
  | .region _ ops false, s => opsA T S ops ops.toList s
  | .region id ops true, s => drawA T S (L id) ops s
  | .seq a b, s => (exec T S L n a s).bind (exec T S L n b)
  | .cond c x y, s => match evA s.ts c with
    | .bool b => if b = true then exec T S L n x s else exec T S L n y s
    | _ => .fail
  | .block id c, s => unblock id (exec T S L n c s)
  | .loop c, s => loopA (exec T S L n c) n s
  | .exit id, s => .fin (.exit id) s
  | .ret, s => .fin .ret s
  | _, _ => .fail

section
variable {P : Program} {D : Nat → Prop} {ρ0 ρ : Nat → Nat} {w0 w : World} {T : TT} {S : ST}

theorem yielded_ok {ops : Array Oper} {s : St} {a : Act} (h : RS D ρ0 w0 ρ s a w) {j : Nat} {d : Tmp} (hd : (ops[j]?).bind (·.dst) = some d) :
    (∀ b, s.ts.getD d .undef = .bool b → yielded ops a.tmps j = some b) ∧ (s.ts.getD d .undef ≠ .undef → (∀ b, s.ts.getD d .undef ≠ .bool b) → yielded ops a.tmps j = none) := by
  have ht := h.tmps d
  have hlt : s.ts.getD d .undef ≠ .undef → a.tmps[d]? = some (a.tmps.getD d Go.undef) := by
    intro hne
    have : d < s.ts.length := by
      rcases Nat.lt_or_ge d s.ts.length with h' | h'
      · exact h'
      · rw [List.getD_eq_getElem?_getD, List.getElem?_eq_none h'] at hne; simp at hne
    have h2 : d < a.tmps.size := by rw [h.size]; exact this
    simp [h2]
  refine ⟨fun b hb => ?_, fun hne hnb => ?_⟩
  · have h1 := hlt (by rw [hb]; simp)
    rw [hb] at ht
    obtain ⟨e, -, -⟩ := ht.get (by simp)
    unfold yielded
    rw [hd, Option.bind_some, h1, e]
    rfl
  · have h1 := hlt hne
    obtain ⟨e, -, -⟩ := ht.get hne
    unfold yielded
    rw [hd, Option.bind_some, h1, e]
    cases hv : s.ts.getD d .undef <;> first
      | (exact absurd hv (hnb _))
      | (exact absurd hv hne)
      | rfl

theorem RS.skip {s : St} {a : Act} (h : RS D ρ0 w0 ρ s a w) (d : Option Tmp) : RS D ρ0 w0 ρ (s.put d (.tup [])) (a.put d Go.undef) w :=
  h.put h.inv (Later.refl _ _) (.inr ⟨rfl, rfl, by simp [refs, refsL]⟩) d

theorem opsA_ok (hT : TOk P T) (hS : STok P S) {ops : Array Oper} {Q : Ex → St → Prop} : ∀ (l : List Oper) {s : St} {ρ : Nat → Nat} {a : Act} {w : World}, RS D ρ0 w0 ρ s a w → Good (opsA T S ops l s) Q →
    wpList P ops (Post D ρ0 w0 Q) l a w
  | [], s, ρ, a, w, h, hg => ⟨.norm, s, ρ, h, hg, rfl⟩
  | o :: rest, s, ρ, a, w, h, hg => by
    have run : Good ((doOp T S o s).bind (opsA T S ops rest)) Q → o.wp P a w (wpList P ops (Post D ρ0 w0 Q) rest) (Post D ρ0 w0 Q) := by
      intro hg
      refine doOp_ok hT hS h hg.bind (fun s' ρ' a' w' h' hq _ _ => opsA_ok hT hS rest h' hq) (fun e a' w' hp => ?_)
      obtain ⟨x, s', ρ', h1, h2, h3⟩ := hp
      cases x with
      | norm => exact h2.elim
      | exit id => exact ⟨_, s', ρ', h1, h2, h3⟩
      | ret => exact ⟨_, s', ρ', h1, h2, h3⟩
      | pan v => exact ⟨_, s', ρ', h1, h2, h3⟩
    unfold opsA at hg
    unfold wpList
    split at hg
    · rename_i hgd
      rw [if_pos (by simp [Region.wanted, hgd])]
      exact .inl (run hg)
    · rename_i j want hgd
      split at hg
      · rename_i hd
        have : yielded ops a.tmps j = none := by unfold yielded; rw [hd]; rfl
        rw [if_neg (by simp [Region.wanted, hgd, this])]
        exact opsA_ok hT hS rest (h.skip o.dst) hg
      · rename_i d hd
        obtain ⟨y1, y2⟩ := yielded_ok h hd
        split at hg
        · rename_i b hb
          have hy := y1 b hb
          split at hg
          · rename_i hbw
            rw [if_pos (by simp [Region.wanted, hgd, hy, hbw])]
            exact .inl (run hg)
          · rename_i hbw
            rw [if_neg (by simp [Region.wanted, hgd, hy, hbw])]
            exact opsA_ok hT hS rest (h.skip o.dst) hg
        · exact hg.elim
        · rename_i hnb hnu
          have hy := y2 hnu hnb
          rw [if_neg (by simp [Region.wanted, hgd, hy])]
          exact opsA_ok hT hS rest (h.skip o.dst) hg

theorem Good.unblock {Q : Ex → St → Prop} {id : Nat} : ∀ {o : Out}, Good (unblock id o) Q → Good o fun x s => match x with | .exit i => if i = id then Q .norm s else Q (.exit i) s | x => Q x s
  | .fin x s, h => by
    cases x with
    | exit i =>
      simp only [X.unblock] at h
      show (if i = id then Q .norm s else Q (.exit i) s)
      by_cases hi : i = id
      · rw [if_pos hi] at h ⊢; exact h
      · rw [if_neg hi] at h ⊢; exact h
    | _ => exact h
  | .any k, h => fun n => Good.unblock (h n)
  | .fail, h => h

/-- every region that draws its order is such as the reckoning takes it -/
def drawsOk (chk : Array Oper → Option DM → Bool) (L : Nat → Option DM) : Code → Bool
  | .region id ops true => chk ops (L id)
  | .seq a b => drawsOk chk L a && drawsOk chk L b
  | .cond _ a b => drawsOk chk L a && drawsOk chk L b
  | .block _ c => drawsOk chk L c
  | .loop c => drawsOk chk L c
  | _ => true

theorem wp_loop_good {c : Code} {f : St → Out} (hc : ∀ {Q : Ex → St → Prop} {s : St} {ρ : Nat → Nat} {a : Act} {w : World}, RS D ρ0 w0 ρ s a w → Good (f s) Q → c.wp P (Post D ρ0 w0 Q) a w) {Q : Ex → St → Prop} :
    ∀ (n : Nat) {s : St} {ρ : Nat → Nat} {a : Act} {w : World}, RS D ρ0 w0 ρ s a w → Good (loopA f n s) Q → Code.rounds P c (Post D ρ0 w0 Q) n a w
  | 0, _, _, _, _, _, hg => hg.elim
  | n + 1, s, ρ, a, w, h, hg => by
    rw [rounds_succ]
    refine wp_mono (hc h hg.bind) fun e a' w' hp => ?_
    obtain ⟨x, s', ρ', h1, h2, h3⟩ := hp
    cases x with
    | norm => subst h3; exact wp_loop_good hc n h1 h2
    | exit id => subst h3; exact ⟨_, s', ρ', h1, h2, rfl⟩
    | ret => subst h3; exact ⟨_, s', ρ', h1, h2, rfl⟩
    | pan v => obtain ⟨rfl, h3⟩ := h3; exact ⟨_, s', ρ', h1, h2, rfl, h3⟩

/-- what is asked of a check of regions that draw their order -/
def DrawSound (P : Program) (chk : Array Oper → Option DM → Bool) : Prop :=
  ∀ (D : Nat → Prop) (ρ0 : Nat → Nat) (w0 : World) (T : TT) (S : ST), TOk P T → STok P S → ∀ (ops : Array Oper) (d : Option DM) (id : Nat), chk ops d = true → ∀ (Q : Ex → St → Prop) (s : St) (ρ : Nat → Nat) (a : Act) (w : World),
    RS D ρ0 w0 ρ s a w → Good (drawA T S d ops s) Q → (Code.region id ops true).wp P (Post D ρ0 w0 Q) a w

theorem exec_ok {chk : Array Oper → Option DM → Bool} (hchk : DrawSound P chk) (hT : TOk P T) (hS : STok P S) {L : Nat → Option DM} {n : Nat} : ∀ (c : Code) {Q : Ex → St → Prop} {s : St} {ρ : Nat → Nat} {a : Act} {w : World}, drawsOk chk L c = true →
    RS D ρ0 w0 ρ s a w → Good (exec T S L n c s) Q → c.wp P (Post D ρ0 w0 Q) a w
  | .skip, Q, s, ρ, a, w, _, h, hg => wp_skip ⟨.norm, s, ρ, h, hg, rfl⟩
  | .label _, Q, s, ρ, a, w, _, h, hg => wp_label ⟨.norm, s, ρ, h, hg, rfl⟩
  | .region id ops false, Q, s, ρ, a, w, _, h, hg => wp_region_list (opsA_ok hT hS _ h hg)
  | .region id ops true, Q, s, ρ, a, w, hd, h, hg => hchk D ρ0 w0 T S hT hS ops _ id hd Q s ρ a w h hg
  | .seq x y, Q, s, ρ, a, w, hd, h, hg => by
    simp only [drawsOk, Bool.and_eq_true] at hd
    refine wp_seq (wp_mono (exec_ok hchk hT hS x hd.1 h hg.bind) fun e a' w' hp => ?_)
    obtain ⟨z, s', ρ', h1, h2, h3⟩ := hp
    cases z with
    | norm => subst h3; exact exec_ok hchk hT hS y hd.2 h1 h2
    | exit id => subst h3; exact ⟨_, s', ρ', h1, h2, rfl⟩
    | ret => subst h3; exact ⟨_, s', ρ', h1, h2, rfl⟩
    | pan v => obtain ⟨rfl, h3⟩ := h3; exact ⟨_, s', ρ', h1, h2, rfl, h3⟩
  | .cond c x y, Q, s, ρ, a, w, hd, h, hg => by
    simp only [drawsOk, Bool.and_eq_true] at hd
    simp only [exec] at hg
    split at hg
    · rename_i b hb
      obtain ⟨e, -, -⟩ := (h.ev c).get (by rw [hb]; simp)
      rw [hb] at e
      refine wp_cond (t := b) e ?_
      split at hg
      · rename_i hbt; rw [if_pos hbt]; exact exec_ok hchk hT hS x hd.1 h hg
      · rename_i hbt; rw [if_neg hbt]; exact exec_ok hchk hT hS y hd.2 h hg
    · exact hg.elim
  | .block id c, Q, s, ρ, a, w, hd, h, hg => by
    refine wp_block (wp_mono (exec_ok hchk hT hS c hd h (Good.unblock hg)) fun e a' w' hp => ?_)
    obtain ⟨z, s', ρ', h1, h2, h3⟩ := hp
    cases z with
    | norm => subst h3; exact ⟨_, s', ρ', h1, h2, rfl⟩
    | exit i =>
      subst h3
      show if i = id then _ else _
      by_cases hi : i = id
      · rw [if_pos hi]; simp only [hi, if_true] at h2; exact ⟨_, s', ρ', h1, h2, rfl⟩
      · rw [if_neg hi]; simp only [hi, if_false] at h2; exact ⟨_, s', ρ', h1, h2, rfl⟩
    | ret => subst h3; exact ⟨_, s', ρ', h1, h2, rfl⟩
    | pan v => obtain ⟨rfl, h3⟩ := h3; exact ⟨_, s', ρ', h1, h2, rfl, h3⟩
  | .loop c, Q, s, ρ, a, w, hd, h, hg => wp_loop_rounds n (wp_loop_good (fun h hg => exec_ok hchk hT hS c hd h hg) n h hg)
  | .exit id, Q, s, ρ, a, w, _, h, hg => wp_exit ⟨.exit id, s, ρ, h, hg, rfl⟩
  | .ret, Q, s, ρ, a, w, _, h, hg => wp_ret ⟨.ret, s, ρ, h, hg, rfl⟩
  | .rangeFunc .., Q, s, ρ, a, w, _, h, hg => hg.elim
  | .scope _, Q, s, ρ, a, w, _, h, hg => hg.elim
  | .goto _, Q, s, ρ, a, w, _, h, hg => hg.elim
  | .refuse _, Q, s, ρ, a, w, _, h, hg => hg.elim

end
end Go.X
