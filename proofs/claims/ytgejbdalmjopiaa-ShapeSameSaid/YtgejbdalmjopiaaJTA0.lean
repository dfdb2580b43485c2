/- Copies of shapes. -/
import Derived.Test.YtgejbdalmjopiaaJUQ
namespace Go.X
open Go.Proofs
attribute [local irreducible] Good
/-- new blocks that name none, handed back -/
theorem told_keep {θ keep : List Nat} {m0 m' : List Blk} {nxt : Nat} {v v' : AV} {nw : List Blk} (hl : θ.length ≤ m'.length) (h3 : ∀ i, i < θ.length → m'[i]? = m0[i]?) (hnd : keep.Nodup) (hk : ∀ q ∈ keep, θ.length ≤ q ∧ q < m'.length)
    (hnw : keep.map (fun q => m'.getD q default) = nw) (hb : ∀ B ∈ nw, refsL B.items = []) (hv : v.ren (glob θ nxt keep) = v') (hr : ∀ b ∈ refs v, b < θ.length ∨ b ∈ keep) (hu : v ≠ .undef) (h6 : ∀ i, i < θ.length → refsL (m0.getD i default).items = []) :
    Told θ m0 m' nxt keep none v (.val v' [] nw) := by
  have hb' : ∀ q ∈ keep, refsL (m'.getD q default).items = [] := fun q hq => hb _ (by rw [← hnw]; exact List.mem_map.2 ⟨q, hq, rfl⟩)
  refine ⟨?_, hnd, hk, hl, fun i hi _ => h3 i hi, by simp, hr, ?_, hu⟩
  · rw [hv]
    simp only [upOf]
    congr 1
    rw [← hnw]
    refine List.map_congr_left fun q hq => ?_
    unfold glB
    rw [renL_noref _ _ (hb' q hq)]
  · intro p hp b hbb
    rcases hp with hp | hp
    · have e : m'.getD p default = m0.getD p default := by rw [List.getD_eq_getElem?_getD, h3 p hp, ← List.getD_eq_getElem?_getD]
      rw [e, h6 p hp] at hbb
      simp at hbb
    · rw [hb' p hp] at hbb
      simp at hbb
/-- the block of a list's copy -/
noncomputable def CB (n k : Nat) (f : Nat → Int) : Blk := if n = 0 then ⟨[], 24⟩ else VB n k f
/-- how much room there is -/
def cpC (n k : Nat) : Nat := if n = 0 then 0 else n + k
@[simp] theorem CB_ref {n k : Nat} {f : Nat → Int} : refsL (CB n k f).items = [] := by
  unfold CB; split <;> simp
/-- what is read of it -/
noncomputable def rdC (n : Nat) (b : Option Blk) : Option (Nat × (Nat → Int)) := match rowB 3 .i64 b 0 n with
  | some (n', o, F) => if n' = n then some (n, fun j => F (o + j)) else none
  | none => none
theorem cpC_le {n k : Nat} : n ≤ cpC n k := by unfold cpC; split <;> omega
@[simp] theorem listE_cb {env : Mem} {p n k : Nat} : listE env (.slice p 0 n (cpC n k)) = rdC n (env p) := by
  unfold listE rdC
  have := @cpC_le n k
  simp only [this, and_true]
  rfl
@[simp] theorem rdC_CB {n k : Nat} {f : Nat → Int} : rdC n (some (CB n k f)) = some (n, cutL (n * 3) f) := by
  unfold rdC CB
  by_cases h : n = 0
  · subst h
    have : cutL (0 * 3) f = fun _ => 0 := by funext j; unfold cutL; simp
    rw [this]
    simp [rowB]
  · rw [if_neg h]
    have : n * 3 ≤ (n + k) * 3 := by omega
    simp [rowB, this]
/-- what is told of a copy of a list, in a value -/
noncomputable def copyR (env : Mem) (nxt : Nat) (l : AV) (v : Nat → AV → AV) (nw : List Blk) : CR := match l with
  | .nilslice => .val (v nxt .nilslice) [] nw
  | .slice p o1 n0 c => match listE env (.slice p o1 n0 c) with
    | some (n, f) => .any fun k => .val (v (nxt + 1) (.slice nxt 0 n (cpC n k))) [] (CB n k f :: nw)
    | none => .fail
  | _ => .fail
@[simp] theorem copyR_nil {env : Mem} {nxt : Nat} {v : Nat → AV → AV} {nw : List Blk} : copyR env nxt .nilslice v nw = .val (v nxt .nilslice) [] nw := rfl
theorem copyR_sl {env : Mem} {nxt p o1 n0 c n : Nat} {f : Nat → Int} {v : Nat → AV → AV} {nw : List Blk} (h : listE env (.slice p o1 n0 c) = some (n, f)) : copyR env nxt (.slice p o1 n0 c) v nw = .any fun k => .val (v (nxt + 1) (.slice nxt 0 n (cpC n k))) [] (CB n k f :: nw) := by
  simp only [copyR, h]
noncomputable def shCopyS : Sum := fun args env nxt => match args with
  | [.agg [.int .i64 kd, .int .i64 r, .int .i64 x, .int .i64 y, .int .i64 z, l]] => match listE env l with
    | some (n, _) => if n ≤ 1048576 then copyR env nxt l (fun _ l' => .agg [.int .i64 kd, .int .i64 r, .int .i64 x, .int .i64 y, .int .i64 z, l']) [] else .fail
    | none => .fail
  | _ => .fail
set_option maxHeartbeats 4000000 in
theorem shCopy_ok : SumOk Try.prog 14 shCopyS := by
  refine sum_mem (L := fun _ => none) (n := 1) (S := stOf [(27, cpyS)]) drawS Try.T_ok (stOf_ok (by simp [cpy_ok])) Try.func14 rfl (by kernel_rfl) (by kernel_rfl) ?_
  intro args env nxt h
  unfold shCopyS at h ⊢
  split at h
  · rename_i kd r x y z l
    split at h
    · rename_i n f hl
      split at h
      · rename_i hn
        simp only [if_pos hn]
        rcases laid_shape (fun l => [.agg [.int .i64 kd, .int .i64 r, .int .i64 x, .int .i64 y, .int .i64 z, l]]) hl (fun _ _ => rfl) (fun l => by simp) with ⟨rfl, rfl, rfl, hlaid⟩ | ⟨p, o1, c, items, ty, rfl, hlaid, hnc, hr', ⟨o, F, hrow, hf⟩, hE, hE2, hload⟩
        · refine ⟨_, _, _, hlaid, ?_⟩
          simp [Try.f14, cpyS]
          exact ⟨[], none, told_none (by simp) (by simp) (by simp) (by simp)⟩
        · refine ⟨_, _, _, hlaid, ?_⟩
          rw [copyR_sl hl]
          by_cases h0 : n = 0
          · subst h0
            simp [Try.f14, cpyS, hE]
            exact ⟨[3], none, .inr ⟨_, ⟨0, rfl⟩, told_keep (by simp) (by simp) (by simp) (by simp) (by simp [CB]) (by simp) (by simp [AV.ren, renL, glob, cpC]) (by simp [refs, refsL]) (by simp) (by simp [hr'])⟩⟩
          · simp [Try.f14, cpyS, hE, hn, h0]
            intro k
            exact ⟨[3], none, .inr ⟨_, ⟨k, rfl⟩, told_keep (by simp) (by simp) (by simp) (by simp) (by simp [CB, h0]) (by simp) (by simp [AV.ren, renL, glob, cpC, h0]) (by simp [refs, refsL]) (by simp) (by simp [hr'])⟩⟩
      · simp [*] at h
    · simp [*] at h
  · simp at h
end Go.X
