/- Shapes with a list: cores, halves, the reach. -/
import Derived.Test.YtgejbdalmjopiaaGreatJUD
import Derived.Test.YtgejbdalmjopiaaGreatGS
import Derived.Test.YtgejbdalmjopiaaGreatGQ

section
namespace Go.X
open Go.Proofs
attribute [local irreducible] Good
theorem ck_nil {kd r x y z : Int} : ckI kd r x y z 0 (fun _ => 0) = if OkN kd r x y z then 0 else 2 := by
  by_cases h4 : kd = 4
  · subst h4
    have : ¬ OkN 4 r x y z := okN_not (by decide) (by decide) (by decide)
    rw [if_neg this]
    exact ck_4no fun h => by have := h.2.2.1; omega
  · exact ck_0 h4
noncomputable def checkBS : Sum := fun args env _ => match args with
  | [.agg [.int .i64 kd, .int .i64 r, .int .i64 x, .int .i64 y, .int .i64 z, l]] => match listE env l with
    | some (n, f) => open Classical in if ShP kd r x y z n f then .val (.int .i64 (ckI kd r x y z n f)) [] [] else .fail
    | none => .fail
  | _ => .fail
theorem checkB_ok : SumOk Tryz.prog 68 checkBS := by
  refine sum_or checkN_ok checkL_ok fun args env nxt => ?_
  unfold checkBS
  split
  · rename_i kd r x y z l
    split
    · rename_i n f hl
      rcases listE_cases hl with ⟨rfl, rfl, rfl⟩ | ⟨p, o1, c, rfl⟩
      · split
        · rename_i hc
          refine .inr (.inl ?_)
          obtain ⟨h1, h2, h3, h4, h5, -⟩ := hc
          simp [pureS_app, h1, h2, h3, h4, h5, ck_nil, prC]
        · exact .inl rfl
      · refine .inr (.inr ?_)
        simp only [checkLS, hl]
    · exact .inl rfl
  · exact .inl rfl
theorem cat_no {n o : Nat} {F : Nat → Int} {g : Nat → Int} : catF 0 n g 0 F o = cutL n (fun j => F (o + j)) := by
  funext j
  unfold catF cutL
  simp
theorem told_row {p q : Nat} {m : List Blk} {nxt : Nat} {v v' : AV} {blk B : Blk} (h1 : 1 ≤ q) (h2 : m[q]? = some blk) (h3 : m[0]? = some B) (hb : refsL blk.items = [])
    (hv : v.ren (glob [p] nxt [q]) = v') (hr : ∀ b ∈ refs v, b = q) (hu : v ≠ .undef) (h6 : refsL B.items = []) : Told [p] [B] m nxt [q] none v (.val v' [] [blk]) := by
  refine told_one (by simpa using h1) h2 (fun i hi => ?_) hb hv hr hu fun i hi => ?_
  · have : i = 0 := by simpa using hi
    subst this
    exact h3
  · have : i = 0 := by simpa using hi
    subst this
    exact h6
noncomputable def cpyS : Sum := fun args env nxt => match args with
  | [.nilslice] => .val .nilslice [] []
  | [.slice p o1 n0 c] => match listE env (.slice p o1 n0 c) with
    | some (n, f) => if n ≤ 1048576 then (if n = 0 then .val (.slice nxt 0 0 0) [] [⟨[], 24⟩] else .any fun k => .val (.slice nxt 0 n (n + k)) [] [VB n k f]) else .fail
    | none => .fail
  | _ => .fail
set_option maxHeartbeats 4000000 in
theorem cpy_ok : SumOk Tryz.prog 75 cpyS := by
  refine sum_mem (L := fun _ => none) (n := 1) (S := stOf []) drawS Tryz.T_ok (stOf_ok (by simp)) Tryz.func75 rfl (by kernel_rfl) (by kernel_rfl) ?_
  intro args env nxt h
  unfold cpyS at h ⊢
  split at h
  · refine ⟨[.nilslice], [], [], ⟨rfl, rfl, by simp, by simp, by simp, by simp⟩, ?_⟩
    simp [Tryz.f75]
    exact ⟨[], none, told_none (by simp) (by simp) (by simp) (by simp)⟩
  · rename_i p o1 n0 c
    split at h
    · rename_i n f hl
      split at h
      · rename_i hn
        simp only [if_pos hn]
        obtain ⟨rfl, hnc, items, ty, hp, hr, ⟨o, F, hrow, hf⟩, hload⟩ := listE_slice hl
        refine ⟨_, _, _, laid1 [.slice 0 o1 n c] rfl (by simp) hp hr, ?_⟩
        by_cases h0 : n = 0
        · subst h0
          simp [Tryz.f75, appA, hrow]
          exact ⟨[1], none, told_row (by omega) rfl rfl (by simp) (by simp [AV.ren, glob]) (by simp [refs]) (by simp) hr⟩
        · have hpos : 0 < n := by omega
          simp [Tryz.f75, appA, hrow, hpos, hn, h0]
          intro k
          exact ⟨[2], none, .inr ⟨_, ⟨k, rfl⟩, told_row (by omega) (by simp [cat_no, hf]) rfl (by simp) (by simp [AV.ren, glob]) (by simp [refs]) (by simp) hr⟩⟩
      · simp [*] at h
    · simp [*] at h
  · simp at h
end Go.X
end

section
namespace Go.X
open Go.Proofs
attribute [local irreducible] Good
end Go.X
end
