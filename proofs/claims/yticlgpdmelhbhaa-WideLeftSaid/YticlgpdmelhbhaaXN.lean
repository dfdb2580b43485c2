/- Functions that read, make or write memory: from a body walked in a memory of its own to what is said of it in whatever memory. Plain: no program in sight. -/
import Derived.Test.YticlgpdmelhbhaaXM
namespace Go.X

/-- local numbers to global ones -/
def glob (θ : List Nat) (nxt : Nat) (keep : List Nat) (i : Nat) : Nat := if i < θ.length then θ.getD i 0 else nxt + keep.idxOf i

def glB (θ : List Nat) (nxt : Nat) (keep : List Nat) (b : Blk) : Blk := ⟨renL (glob θ nxt keep) b.items, b.ty⟩

def upOf (θ : List Nat) (nxt : Nat) (keep : List Nat) (m' : List Blk) : Option Nat → List (Nat × List AV)
  | none => []
  | some i => [(θ.getD i 0, renL (glob θ nxt keep) (m'.getD i default).items)]

/-- what a body came to in its own memory, told in the caller's: 'keep': the new blocks that are handed out; 'chg': the block handed in that was written -/
structure Told (θ : List Nat) (m0 m' : List Blk) (nxt : Nat) (keep : List Nat) (chg : Option Nat) (v : AV) (r : CR) : Prop where
  res : r = .val (v.ren (glob θ nxt keep)) (upOf θ nxt keep m' chg) (keep.map fun q => glB θ nxt keep (m'.getD q default))
  nodup : keep.Nodup
  new : ∀ q ∈ keep, θ.length ≤ q ∧ q < m'.length
  long : θ.length ≤ m'.length
  same : ∀ i, i < θ.length → chg ≠ some i → m'[i]? = m0[i]?
  chgd : ∀ i, chg = some i → i < θ.length ∧ (m'.getD i default).ty = (m0.getD i default).ty
  vref : ∀ b ∈ refs v, b < θ.length ∨ b ∈ keep
  mref : ∀ q, (q < θ.length ∨ q ∈ keep) → ∀ b ∈ refsL (m'.getD q default).items, b < θ.length ∨ b ∈ keep
  ok : v ≠ .undef

/-- how the arguments lie in the caller's memory -/
structure Laid (env : Mem) (args args0 : List AV) (θ : List Nat) (m0 : List Blk) : Prop where
  args : args = renL (fun i => θ.getD i 0) args0
  len : m0.length = θ.length
  nodup : θ.Nodup
  aref : ∀ b ∈ refsL args0, b < θ.length
  blk : ∀ i, i < θ.length → env (θ.getD i 0) = some ⟨renL (fun i => θ.getD i 0) (m0.getD i default).items, (m0.getD i default).ty⟩
  bref : ∀ i, i < θ.length → ∀ b ∈ refsL (m0.getD i default).items, b < θ.length

def ToldR (θ : List Nat) (m0 : List Blk) (nxt : Nat) (r : CR) (v : AV) (m' : List Blk) : Prop :=
  match r with
  | .any k => ∃ n keep chg, Told θ m0 m' nxt keep chg v (k n)
  | r => ∃ keep chg, Told θ m0 m' nxt keep chg v r

theorem getD_get {α : Type} [Inhabited α] {l : List α} {i : Nat} (h : i < l.length) : l[i]? = some (l.getD i default) := by
  simp [List.getD_eq_getElem?_getD, List.getElem?_eq_getElem h]

section
variable {P : Program} {D : Nat → Prop} {ρ0 ρ : Nat → Nat} {w0 w : World} {mem : Mem} {T : TT} {S : ST}

theorem nodup_inj {l : List Nat} (h : l.Nodup) {i j : Nat} (hi : i < l.length) (hj : j < l.length) (e : l.getD i 0 = l.getD j 0) : i = j := by
  simp only [List.getD_eq_getElem?_getD, List.getElem?_eq_getElem hi, List.getElem?_eq_getElem hj, Option.getD_some] at e
  rcases Nat.lt_trichotomy i j with hij | hij | hij
  · exact absurd e (List.pairwise_iff_getElem.1 h i j hi hj hij)
  · exact hij
  · exact absurd e.symm (List.pairwise_iff_getElem.1 h j i hj hi hij)

/-- the start of a body in its own memory -/
theorem Laid.start {env : Mem} {args args0 : List AV} {θ : List Nat} {m0 : List Blk} (hl : Laid env args args0 θ m0) (henv : ∀ b blk, env b = some blk → mem b = some blk) (hi : Inv D ρ0 w0 ρ mem w) :
    Inv (fun b => (fun b => m0[b]? : Mem) b ≠ none) (fun i => ρ (θ.getD i 0)) w (fun i => ρ (θ.getD i 0)) (fun b => m0[b]?) w := by
  have hlt : ∀ b, (fun b => m0[b]? : Mem) b ≠ none → b < θ.length := by
    intro b hb
    rcases Nat.lt_or_ge b θ.length with h' | h'
    · exact h'
    · exact absurd (List.getElem?_eq_none (by rw [hl.len]; exact h')) hb
  refine Inv.start ?_ ?_ ?_
  · intro b blk hb
    have hbl := hlt b (by show m0[b]? ≠ none; rw [show m0[b]? = some blk from hb]; simp)
    have hg := getD_get (l := m0) (i := b) (by rw [hl.len]; exact hbl)
    rw [show m0[b]? = some blk from hb] at hg
    have he := henv _ _ (hl.blk b hbl)
    rw [← Option.some.inj hg] at he
    have := hi.row _ _ he
    simp only at this
    rw [concC_ren] at this
    exact this
  · intro b c hb hc e
    have hbl := hlt b hb
    have hcl := hlt c hc
    exact nodup_inj hl.nodup hbl hcl (hi.inj _ _ (by rw [henv _ _ (hl.blk b hbl)]; simp) (by rw [henv _ _ (hl.blk c hcl)]; simp) e)
  · intro b blk hb
    have hbl := hlt b (by show m0[b]? ≠ none; rw [show m0[b]? = some blk from hb]; simp)
    have hg := getD_get (l := m0) (i := b) (by rw [hl.len]; exact hbl)
    rw [show m0[b]? = some blk from hb] at hg
    have hgs := Option.some.inj hg
    refine ⟨fun c hc => ?_, ?_⟩
    · rw [hgs] at hc
      have := hl.bref b hbl c hc
      show m0[c]? ≠ none
      rw [getD_get (l := m0) (by rw [hl.len]; exact this)]; simp
    · have he := henv _ _ (hl.blk b hbl)
      have := (hi.ref _ _ he).2
      simp only at this
      rw [solidL_ren] at this
      rw [hgs]; exact this

theorem told_post {env : Mem} {args args0 : List AV} {θ : List Nat} {m0 m' : List Blk} {nxt : Nat} {keep : List Nat} {chg : Option Nat} {v : AV} {r : CR} (hl : Laid env args args0 θ m0) (henv : ∀ b blk, env b = some blk → mem b = some blk)
    (hi : Inv D ρ0 w0 ρ mem w) (ht : Told θ m0 m' nxt keep chg v r) (hfr : ∀ j, j < keep.length → mem (nxt + j) = none) {ρ' : Nat → Nat} {w' : World} (hv : okv v = true) (hvr : ∀ c ∈ refs v, (fun b => m'[b]? : Mem) c ≠ none)
    (hk : Inv (fun b => (fun b => m0[b]? : Mem) b ≠ none) (fun i => ρ (θ.getD i 0)) w ρ' (fun b => m'[b]?) w') : CRpost D ρ0 w0 ρ mem nxt r (.returned (conc ρ' v)) w' := by
  have hmem : ∀ i, i < θ.length → mem (θ.getD i 0) ≠ none := fun i h => by rw [henv _ _ (hl.blk i h)]; simp
  have hent : ∀ i, i < θ.length → ρ' i = ρ (θ.getD i 0) := fun i h => (hk.ent i (by show m0[i]? ≠ none; rw [getD_get (l := m0) (by rw [hl.len]; exact h)]; simp)).1
  -- the caller's numbers
  let ρ2 : Nat → Nat := fun b => if nxt ≤ b ∧ b < nxt + keep.length then ρ' (keep.getD (b - nxt) 0) else ρ b
  have hold : ∀ b, mem b ≠ none → ρ2 b = ρ b := by
    intro b hb
    show (if _ then _ else _) = _
    rw [if_neg]
    rintro ⟨h1, h2⟩
    have := hfr (b - nxt) (by omega)
    rw [show nxt + (b - nxt) = b from by omega] at this
    exact hb this
  have hg : ∀ b, (b < θ.length ∨ b ∈ keep) → ρ2 (glob θ nxt keep b) = ρ' b := by
    intro b hb
    unfold glob
    by_cases h : b < θ.length
    · rw [if_pos h, hold _ (hmem b h), hent b h]
    · rw [if_neg h]
      have hbk := hb.resolve_left h
      have hix : keep.idxOf b < keep.length := List.idxOf_lt_length_of_mem hbk
      show (if _ then _ else _) = _
      rw [if_pos (by omega)]
      rw [show nxt + keep.idxOf b - nxt = keep.idxOf b from by omega, List.getD_eq_getElem?_getD, List.getElem?_eq_getElem hix, Option.getD_some, List.getElem_idxOf hix]
  have hcv : conc ρ2 (v.ren (glob θ nxt keep)) = conc ρ' v := by
    rw [conc_ren]; exact conc_congr v fun b hb => hg b (ht.vref b hb)
  have hcm : ∀ q, (q < θ.length ∨ q ∈ keep) → concC ρ2 (renL (glob θ nxt keep) (m'.getD q default).items) = concC ρ' (m'.getD q default).items := by
    intro q hq
    rw [concC_ren]; exact concC_congr _ fun b hb => hg b (ht.mref q hq b hb)
  -- the memory behind
  obtain ⟨up, hup⟩ : ∃ up : List (Nat × List AV), up = upOf θ nxt keep m' chg := ⟨_, rfl⟩
  obtain ⟨nw, hnw⟩ : ∃ nw : List Blk, nw = keep.map fun q => glB θ nxt keep (m'.getD q default) := ⟨_, rfl⟩
  have hnl : nw.length = keep.length := by rw [hnw, List.length_map]
  have hup1 : ∀ b, (∀ i, chg = some i → b ≠ θ.getD i 0) → memUp mem up b = mem b := by
    intro b hb
    rw [hup]
    cases chg with
    | none => rfl
    | some i => simp only [upOf, memUp]; rw [if_neg (hb i rfl)]
  have hup2 : ∀ i, chg = some i → memUp mem up (θ.getD i 0) = some ⟨renL (glob θ nxt keep) (m'.getD i default).items, (m0.getD i default).ty⟩ := by
    intro i hci
    rw [hup]
    subst hci
    simp only [upOf, memUp, if_true]
    rw [henv _ _ (hl.blk i (ht.chgd i rfl).1)]
    rfl
  have hdom : ∀ b, memUp mem up b ≠ none ↔ mem b ≠ none := by
    intro b
    by_cases hb : ∃ i, chg = some i ∧ b = θ.getD i 0
    · obtain ⟨i, h1, rfl⟩ := hb
      rw [hup2 i h1]
      exact ⟨fun _ => hmem i (ht.chgd i h1).1, fun _ => by simp⟩
    · rw [hup1 b fun i h e => hb ⟨i, h, e⟩]
  have hnew : ∀ j, j < keep.length → memNew (memUp mem up) nxt nw (nxt + j) = some (glB θ nxt keep (m'.getD (keep.getD j 0) default)) := by
    intro j hj
    unfold memNew
    rw [if_pos (by omega), show nxt + j - nxt = j from by omega, hnw, List.getElem?_map, List.getElem?_eq_getElem hj, List.getD_eq_getElem?_getD (l := keep), List.getElem?_eq_getElem hj]
    rfl
  have hnot : ∀ b, mem b ≠ none → memNew (memUp mem up) nxt nw b = memUp mem up b := by
    intro b hb
    unfold memNew
    rw [if_neg]
    rintro ⟨h1, h2⟩
    have := hfr (b - nxt) (by omega)
    rw [show nxt + (b - nxt) = b from by omega] at this
    exact hb this
  have hcase : ∀ b, memNew (memUp mem up) nxt nw b ≠ none → (∃ j, j < keep.length ∧ b = nxt + j) ∨ mem b ≠ none := by
    intro b hb
    by_cases h : nxt ≤ b ∧ b < nxt + keep.length
    · exact .inl ⟨b - nxt, by omega, by omega⟩
    · right
      unfold memNew at hb
      rw [if_neg (by omega)] at hb
      exact (hdom b).1 hb
  have hkey : ∀ j, j < keep.length → keep.getD j 0 ∈ keep := by
    intro j hj
    rw [List.getD_eq_getElem?_getD, List.getElem?_eq_getElem hj]
    exact List.getElem_mem hj
  have hρnew : ∀ j, j < keep.length → ρ2 (nxt + j) = ρ' (keep.getD j 0) := by
    intro j hj
    show (if _ then _ else _) = _
    rw [if_pos (by omega), show nxt + j - nxt = j from by omega]
  have hlive : ∀ q, q < m'.length → (fun b => m'[b]? : Mem) q = some (m'.getD q default) := fun q hq => getD_get hq
  have hglob : ∀ b, (b < θ.length ∨ b ∈ keep) → memNew (memUp mem up) nxt nw (glob θ nxt keep b) ≠ none := by
    intro b hb
    unfold glob
    by_cases h : b < θ.length
    · rw [if_pos h, hnot _ (hmem b h)]; exact (hdom _).2 (hmem b h)
    · rw [if_neg h, hnew _ (List.idxOf_lt_length_of_mem (hb.resolve_left h))]; simp
  have hrefs : ∀ q, (q < θ.length ∨ q ∈ keep) → ∀ c ∈ refsL (renL (glob θ nxt keep) (m'.getD q default).items), memNew (memUp mem up) nxt nw c ≠ none := by
    intro q hq c hc
    rw [refsL_ren, List.mem_map] at hc
    obtain ⟨b, hb, rfl⟩ := hc
    exact hglob b (ht.mref q hq b hb)
  have hsolid : ∀ q, q < m'.length → solidL (m'.getD q default).items = true := fun q hq => (hk.ref q _ (hlive q hq)).2
  -- where the caller's other blocks lie
  have hfar : ∀ b, mem b ≠ none → (∀ i, i < θ.length → b ≠ θ.getD i 0) → w'.heap[ρ b]? = w.heap[ρ b]? := by
    intro b hb hne
    refine hk.old _ (hi.lt hb) fun i hiD e => ?_
    have hil : i < θ.length := by
      rcases Nat.lt_or_ge i θ.length with h' | h'
      · exact h'
      · exact absurd (List.getElem?_eq_none (by rw [hl.len]; exact h')) hiD
    exact hne i hil (hi.inj _ _ hb (hmem i hil) e.symm)
  have hin : ∀ i, i < θ.length → w'.heap[ρ (θ.getD i 0)]? = some (.cells (concC ρ' (m'.getD i default).items).toArray (m'.getD i default).ty (0, 0)) := by
    intro i h
    rw [← hent i h]
    exact hk.row i _ (hlive i (Nat.lt_of_lt_of_le h ht.long))
  rw [ht.res, ← hup, ← hnw]
  refine ⟨ρ2, conc ρ' v, rfl, .inr ⟨hcv.symm, by rw [okv_ren]; exact hv, ?_⟩, ?_, ⟨?_, ?_, ?_, ?_, ?_, hk.os.trans hi.os, hk.tape.trans hi.tape, hk.output.trans hi.output, Nat.le_trans hi.size hk.size, ?_⟩, ?_⟩
  · intro c hc
    rw [refs_ren, List.mem_map] at hc
    obtain ⟨b, hb, rfl⟩ := hc
    exact hglob b (ht.vref b hb)
  · cases v <;> simp [AV.ren]
    exact ht.ok rfl
  · -- rows
    intro b blk hb
    have hne : memNew (memUp mem up) nxt nw b ≠ none := by rw [hb]; simp
    rcases hcase b hne with ⟨j, hj, rfl⟩ | hbm
    · rw [hnew j hj] at hb
      cases hb
      rw [hρnew j hj]
      have hq := ht.new _ (hkey j hj)
      simp only [glB]
      rw [hcm _ (.inr (hkey j hj))]
      exact hk.row _ _ (hlive _ hq.2)
    · rw [hnot b hbm] at hb
      rw [hold b hbm]
      by_cases hθ : ∃ i, i < θ.length ∧ b = θ.getD i 0
      · obtain ⟨i, h, rfl⟩ := hθ
        rw [hin i h]
        by_cases hci : chg = some i
        · rw [hup2 i hci] at hb
          cases hb
          simp only
          rw [hcm i (.inl h), (ht.chgd i hci).2]
        · rw [hup1 _ fun i' h' e => hci (by have := nodup_inj hl.nodup h (ht.chgd i' h').1 e; subst this; exact h')] at hb
          rw [henv _ _ (hl.blk i h)] at hb
          cases hb
          have hs := ht.same i h hci
          have hm' : m'.getD i default = m0.getD i default := by simp only [List.getD_eq_getElem?_getD, hs]
          simp only
          have e : concC ρ' (m0.getD i default).items = concC (ρ2 ∘ fun i => θ.getD i 0) (m0.getD i default).items := concC_congr _ fun c hc => by
            rw [hent c (hl.bref i h c hc)]
            exact (hold _ (hmem c (hl.bref i h c hc))).symm
          rw [hm', concC_ren, e]
      · have hne' : ∀ i, i < θ.length → b ≠ θ.getD i 0 := fun i h e => hθ ⟨i, h, e⟩
        rw [hup1 b fun i h e => hne' i (ht.chgd i h).1 e] at hb
        rw [hfar b hbm hne', hi.row b blk hb, concC_congr _ fun c hc => (hold c ((hi.ref b blk hb).1 c hc)).symm]
  · -- no two alike
    intro b c hb hc e
    rcases hcase b hb with ⟨j, hj, rfl⟩ | hbm <;> rcases hcase c hc with ⟨j2, hj2, rfl⟩ | hcm2
    · rw [hρnew j hj, hρnew j2 hj2] at e
      have h1 := (ht.new _ (hkey j hj)).2
      have h2 := (ht.new _ (hkey j2 hj2)).2
      have := hk.inj _ _ (by show m'[_]? ≠ none; rw [getD_get h1]; simp) (by show m'[_]? ≠ none; rw [getD_get h2]; simp) e
      have := nodup_inj ht.nodup hj hj2 this
      omega
    · exfalso
      rw [hρnew j hj, hold c hcm2] at e
      have h1 := ht.new _ (hkey j hj)
      have hge := hk.new (keep.getD j 0) (by show m'[_]? ≠ none; rw [getD_get h1.2]; simp) (fun q => by
        have : m0[keep.getD j 0]? = none := List.getElem?_eq_none (by rw [hl.len]; exact h1.1)
        exact q this)
      have := hi.lt hcm2
      omega
    · exfalso
      rw [hρnew j2 hj2, hold b hbm] at e
      have h1 := ht.new _ (hkey j2 hj2)
      have hge := hk.new (keep.getD j2 0) (by show m'[_]? ≠ none; rw [getD_get h1.2]; simp) (fun q => by
        have : m0[keep.getD j2 0]? = none := List.getElem?_eq_none (by rw [hl.len]; exact h1.1)
        exact q this)
      have := hi.lt hbm
      omega
    · rw [hold b hbm, hold c hcm2] at e
      exact hi.inj b c hbm hcm2 e
  · -- what they name
    intro b blk hb
    have hne : memNew (memUp mem up) nxt nw b ≠ none := by rw [hb]; simp
    have hmon : ∀ c, mem c ≠ none → memNew (memUp mem up) nxt nw c ≠ none := fun c hc => by rw [hnot c hc]; exact (hdom c).2 hc
    rcases hcase b hne with ⟨j, hj, rfl⟩ | hbm
    · rw [hnew j hj] at hb
      cases hb
      simp only [glB]
      exact ⟨hrefs _ (.inr (hkey j hj)), by rw [solidL_ren]; exact hsolid _ (ht.new _ (hkey j hj)).2⟩
    · rw [hnot b hbm] at hb
      by_cases hci : ∃ i, chg = some i ∧ b = θ.getD i 0
      · obtain ⟨i, h1, rfl⟩ := hci
        rw [hup2 i h1] at hb
        cases hb
        simp only
        have h := (ht.chgd i h1).1
        exact ⟨hrefs i (.inl h), by rw [solidL_ren]; exact hsolid i (Nat.lt_of_lt_of_le h ht.long)⟩
      · rw [hup1 b fun i h e => hci ⟨i, h, e⟩] at hb
        exact ⟨fun c hc => hmon c ((hi.ref b blk hb).1 c hc), (hi.ref b blk hb).2⟩
  · intro b hb
    obtain ⟨h1, h2⟩ := hi.ent b hb
    exact ⟨(hold b h2).trans h1, by rw [hnot b h2]; exact (hdom b).2 h2⟩
  · intro b hb hD
    rcases hcase b hb with ⟨j, hj, rfl⟩ | hbm
    · rw [hρnew j hj]
      have h1 := ht.new _ (hkey j hj)
      have hge := hk.new (keep.getD j 0) (by show m'[_]? ≠ none; rw [getD_get h1.2]; simp) (fun q => by
        have : m0[keep.getD j 0]? = none := List.getElem?_eq_none (by rw [hl.len]; exact h1.1)
        exact q this)
      exact Nat.le_trans hi.size hge
    · rw [hold b hbm]; exact hi.new b hbm hD
  · intro i hi0 hD
    have hlt : i < w.heap.size := Nat.lt_of_lt_of_le hi0 hi.size
    rw [hk.old i hlt]
    · exact hi.old i hi0 hD
    · intro b hb e
      have hbl : b < θ.length := by
        rcases Nat.lt_or_ge b θ.length with h' | h'
        · exact h'
        · exact absurd (List.getElem?_eq_none (by rw [hl.len]; exact h')) hb
      by_cases hDb : D (θ.getD b 0)
      · exact hD _ hDb (by rw [← (hi.ent _ hDb).1, e])
      · have := hi.new _ (hmem b hbl) hDb
        omega
  · intro b hb
    exact ⟨hold b hb, by rw [hnot b hb]; exact (hdom b).2 hb⟩

/-- a function that works in memory -/
theorem sum_mem {chk : Array Oper → Option DM → Bool} (hchk : DrawSound P chk) (hT : TOk P T) (hS : STok P S) {L : Nat → Option DM} {n : Nat} {f : FuncId} {fn : Func} {c : Code} (hf : P.funcs[f]? = some fn) (hb : fn.body = some c)
    (hn : (fn.name == "runtime.NumGoroutine") = false) (hd : drawsOk chk L c = true) {g : Sum}
    (hg : ∀ args env nxt, g args env nxt ≠ .fail → ∃ args0 θ m0, Laid env args args0 θ m0 ∧
      Good (exec T S L n c (initS args0 fn.ntmps m0)) (Ends T fn.results.toList (fun v m' => ∃ keep chg r', (r' = g args env nxt ∨ ∃ k i, g args env nxt = .any k ∧ r' = k i) ∧ Told θ m0 m' nxt keep chg v r') fun _ _ => False)) : SumOk P f g := by
  intro args D ρ0 w0 ρ mem nxt w hnf hso hrf hfr hi
  obtain ⟨args0, θ, m0, hl, hgood⟩ := hg args _ nxt hnf
  refine .inr ⟨callFunc_enter hf hn (by rw [hb]; rfl) _, ?_⟩
  have henv : ∀ b blk, envOf mem (refsL args) b = some blk → mem b = some blk := by
    intro b blk h
    unfold envOf at h
    split at h
    · exact h
    · simp at h
  have hargs : (args.map (conc ρ)) = args0.map (conc fun i => ρ (θ.getD i 0)) := by
    rw [hl.args, ← concT_eq, concT_ren, concT_eq]
    rfl
  have hso0 : solidL args0 = true := by rw [hl.args, solidL_ren] at hso; exact hso
  rw [hargs]
  refine (calls_ok hchk hT hS hf hb hd (hl.start henv hi) hso0 (fun c hc => by
    show m0[c]? ≠ none
    rw [getD_get (l := m0) (by rw [hl.len]; exact hl.aref c hc)]; simp) hgood).mono fun e w' he => ?_
  obtain ⟨ρ', v, m', k1, k2, k3, ⟨rfl, keep, chg, r', hr, ht⟩ | ⟨-, -, hF⟩⟩ := he
  · rcases hr with hr | ⟨k, i, hk, hr⟩
    · rw [hr] at ht
      refine told_post hl henv hi ht (fun j hj => hfr j ?_) k3 k2 k1
      rw [ht.res]
      simpa [CR.news] using hj
    · rw [hr] at ht
      rw [hk]
      refine ⟨i, told_post hl henv hi ht (fun j hj => hfr j ?_) k3 k2 k1⟩
      rw [hk]
      refine ⟨i, ?_⟩
      rw [ht.res]
      simpa [CR.news] using hj
  · exact hF.elim

/-- a table of what is said of functions -/
def stOf (l : List (FuncId × Sum)) : ST := fun f => (l.find? fun p => p.1 == f).map (·.2)
theorem stOf_ok {l : List (FuncId × Sum)} (h : ∀ p ∈ l, SumOk P p.1 p.2) : STok P (stOf l) := by
  intro f g hg
  unfold stOf at hg
  simp only [Option.map_eq_some_iff] at hg
  obtain ⟨p, hp, rfl⟩ := hg
  have h1 := List.find?_some hp
  simp only [beq_iff_eq] at h1
  subst h1
  exact h p (List.mem_of_find?_eq_some hp)

end
end Go.X
