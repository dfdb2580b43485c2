/- Lists of what was lost; some answers that the document fixes. -/
import Derived.Test.YtgejbdalmjopiaaGreatJTG
import Derived.Test.YtgejbdalmjopiaaGreatJTI
namespace Go.X
open Go.Proofs
attribute [local irreducible] Good
@[simp] theorem clB_ref {i w : Int} : refsL (ClB i w).items = [] := rfl
theorem clB_ex {i w : Int} : (∃ a b, ClB i w = ClB a b) = True := eq_true ⟨i, w, rfl⟩
noncomputable def sameClS : Sum := fun args env _ => match args with
  | [.nilslice, .nilslice] => .val (.bool true) [] []
  | [.slice p 0 1 1, .slice q 0 1 1] => match env p, env q with
    | some B, some C => open Classical in if B = C ∧ p ≠ q ∧ ∃ i w, B = ClB i w then .val (.bool true) [] [] else .fail
    | _, _ => .fail
  | _ => .fail
set_option maxHeartbeats 4000000 in
theorem sameCl_ok : SumOk Tryz.prog 20 sameClS := by
  refine sum_read (L := fun _ => none) (n := 3) (S := stOf []) drawS Tryz.T_ok (stOf_ok (by simp)) Tryz.func20 rfl (by kernel_rfl) (by kernel_rfl) ?_
  intro args env nxt h
  unfold sameClS at h ⊢
  split at h
  · refine ⟨[.nilslice, .nilslice], [], [], .bool true, laid0 (by simp), rfl, rfl, rfl, ?_⟩
    simp [Tryz.f20]
  · rename_i p q
    split at h
    · rename_i B C hB hC
      split at h
      · rename_i hc
        simp only [if_pos hc]
        obtain ⟨rfl, hne, i, w, rfl⟩ := id hc
        refine ⟨_, _, _, .bool true, laid2 [.slice 0 0 1 1, .slice 1 0 1 1] rfl (by simp) hB hC hne rfl rfl, rfl, rfl, rfl, ?_⟩
        simp [Tryz.f20, List.range, List.range.loop]
      · simp [*] at h
    · simp [*] at h
  · simp at h
noncomputable def ballS : List AV → PR
  | [] => .val (.agg [.int .i64 1, .int .i64 1, .int .i64 4294967296, .int .i64 0, .int .i64 0, .int .i64 0, .nilslice, .int .i64 0, .int .i64 0, .int .i64 0, .int .i64 4294967296, .int .i64 0, .int .i64 0, .int .i64 0, .int .i64 4294967296, .int .i64 0, .int .i64 0, .int .i64 0, .int .i64 0, .int .i64 0, .int .i64 0, .int .i64 0])
  | _ => .fail
@[simp] theorem ballS_val : ballS [] = .val (.agg [.int .i64 1, .int .i64 1, .int .i64 4294967296, .int .i64 0, .int .i64 0, .int .i64 0, .nilslice, .int .i64 0, .int .i64 0, .int .i64 0, .int .i64 4294967296, .int .i64 0, .int .i64 0, .int .i64 0, .int .i64 4294967296, .int .i64 0, .int .i64 0, .int .i64 0, .int .i64 0, .int .i64 0, .int .i64 0, .int .i64 0]) := rfl
set_option maxRecDepth 100000 in
theorem ball_ok : SumOk Tryz.prog 24 (pureS ballS) := by
  refine sum_fn (L := fun _ => none) (n := 1) (S := stOf []) drawS Tryz.T_ok (stOf_ok (by simp)) Tryz.func24 rfl (by kernel_rfl) (by kernel_rfl) ?_
    (by intro args v h; unfold ballS at h; split at h <;> simp at h)
  intro args v h
  unfold ballS at h
  split at h
  · cases h
    refine ⟨by simp, by simp, by simp, ?_⟩
    simp [Tryz.f24]
  · simp at h
theorem sp_stays {a b c d x y z t : Int} (h : InI a ∧ InI b ∧ InI c ∧ InI d) (k : (x = 0 ∧ y = 0 ∧ z = 0) ∨ t = 0) : sp0 a b c d x y z t = a ∧ sp1 a b c d x y z t = b ∧ sp2 a b c d x y z t = c ∧ sp3 a b c d x y z t = d := by
  have e0 : t * qW 0 x y z a b c d = 0 := by rcases k with ⟨rfl, rfl, rfl⟩ | rfl <;> simp [qW]
  have e1 : t * qX 0 x y z a b c d = 0 := by rcases k with ⟨rfl, rfl, rfl⟩ | rfl <;> simp [qX]
  have e2 : t * qY 0 x y z a b c d = 0 := by rcases k with ⟨rfl, rfl, rfl⟩ | rfl <;> simp [qY]
  have e3 : t * qZ 0 x y z a b c d = 0 := by rcases k with ⟨rfl, rfl, rfl⟩ | rfl <;> simp [qZ]
  have key : ∀ {u : Int}, InI u → clampI ((u * 36893488147419103232 + 0) / 36893488147419103232) = u := fun {u} hu => by
    rw [show (u * 36893488147419103232 + 0) / 36893488147419103232 = u by omega]; exact clampI_self hu
  unfold sp0 sp1 sp2 sp3
  rw [e0, e1, e2, e3]
  exact ⟨key h.1, key h.2.1, key h.2.2.1, key h.2.2.2⟩
theorem pl_place {a b c : Int} (h : Place a b c) : plI a = a ∧ plI b = b ∧ plI c = c := by
  unfold Place at h
  refine ⟨?_, ?_, ?_⟩ <;> (unfold plI betw; (repeat' split) <;> omega)
theorem pm_val {p1 p2 p3 q0 q1 q2 q3 vx vy vz wx wy wz t m1 m2 m3 : Int} (h : InI p1 ∧ InI p2 ∧ InI p3 ∧ InI q0 ∧ InI q1 ∧ InI q2 ∧ InI q3 ∧ InI vx ∧ InI vy ∧ InI vz ∧ InI wx ∧ InI wy ∧ InI wz ∧ InI t) (pl : Place p1 p2 p3) (tt : TurnP q0 q1 q2 q3)
    (k : (wx = 0 ∧ wy = 0 ∧ wz = 0) ∨ t = 0) (hm : mvI p1 vx t = m1 ∧ mvI p2 vy t = m2 ∧ mvI p3 vz t = m3) (pm : Place m1 m2 m3) :
    pmL p1 p2 p3 q0 q1 q2 q3 vx vy vz wx wy wz t = ([.int .i64 m1, .int .i64 m2, .int .i64 m3, .int .i64 (clampI (ratI q0 (sq4 q0 q1 q2 q3))), .int .i64 (clampI (ratI q1 (sq4 q0 q1 q2 q3))), .int .i64 (clampI (ratI q2 (sq4 q0 q1 q2 q3))), .int .i64 (clampI (ratI q3 (sq4 q0 q1 q2 q3)))], false) := by
  obtain ⟨e0, e1, e2, e3⟩ := sp_stays (a := q0) (b := q1) (c := q2) (d := q3) ⟨h.2.2.2.1, h.2.2.2.2.1, h.2.2.2.2.2.1, h.2.2.2.2.2.2.1⟩ k
  obtain ⟨rfl, rfl, rfl⟩ := hm
  obtain ⟨l1, l2, l3⟩ := pl_place pm
  unfold pmL
  rw [pMoveS_val h, if_pos ⟨pl, tt⟩, e0, e1, e2, e3, if_pos tt, l1, l2, l3]
  simp
theorem mvI_stays {p v t : Int} (h : InI p) (k : v = 0 ∨ t = 0) : mvI p v t = p := by
  have e : v * t = 0 := by rcases k with rfl | rfl <;> simp
  unfold mvI
  rw [e, show (p * 4294967296 + 0) / 4294967296 = p by omega]
  exact clampI_self h
noncomputable def awake24S : List AV → PR
  | [] => .val (.bool true)
  | _ => .fail
@[simp] theorem awake24S_val : awake24S [] = .val (.bool true) := rfl
set_option maxHeartbeats 400000000 in
set_option maxRecDepth 100000 in
theorem awake24_ok : SumOk Tryz.prog 8 (pureS awake24S) := by
  refine sum_fn (L := fun _ => none) (n := 1) (S := stOf [(24, pureS ballS), (15, fallS), (18, goS), (11, boCkS)]) drawS Tryz.T_ok (stOf_ok (by simp [ball_ok, fall_ok, go_ok, boCk_ok])) Tryz.func8 rfl (by kernel_rfl) (by kernel_rfl) ?_
    (by intro args v h; unfold awake24S at h; split at h <;> simp at h)
  intro args v h
  unfold awake24S at h
  split at h
  · cases h
    refine ⟨by simp, by simp, by simp, ?_⟩
    have pl : Place 0 0 0 := by unfold Place; decide
    have tt : TurnP 4294967296 0 0 0 := by decide
    have ok : OkN 1 4294967296 0 0 0 := by unfold OkN MayN May1 Size3; decide
    have ck : ckI 1 4294967296 0 0 0 0 (fun _ => 0) = 0 := by rw [ck_nil, if_pos ok]
    have th : thI 1 4294967296 0 0 0 0 (fun _ => 0) 0 0 0 4294967296 0 0 0 = 0 := by unfold thI; rw [if_pos pl, if_pos tt, ck]
    have fi : FineP 4294967296 0 0 0 0 0 0 := by decide +kernel
    have fi2 : FineP 4294967296 0 0 (-21474836480) 0 0 0 := by decide +kernel
    have b1 : boI 1 1 4294967296 0 0 0 0 (fun _ => 0) 0 0 0 4294967296 0 0 0 4294967296 0 0 0 0 0 0 0 = 0 := by unfold boI; rw [if_neg (by decide), if_pos th, if_pos ⟨fi, by decide, by decide⟩]
    have b2 : boI 1 1 4294967296 0 0 0 0 (fun _ => 0) 0 0 0 4294967296 0 0 0 4294967296 0 0 (-21474836480) 0 0 0 0 = 0 := by unfold boI; rw [if_neg (by decide), if_pos th, if_pos ⟨fi2, by decide, by decide⟩]
    have b3 : boI 0 0 0 0 0 0 0 (fun _ => 0) 0 0 0 0 0 0 0 0 0 0 0 0 0 0 0 = 2 := by unfold boI; rw [if_pos (by decide)]
    have m1 : mvI 0 0 2147483648 = 0 := by decide +kernel
    have m2 : mvI 0 (-42949672960) 2147483648 = -21474836480 := by decide +kernel
    have s1 : spI 0 = 0 := by decide +kernel
    have s2 : spI (-21474836480) = -21474836480 := by decide +kernel
    have g1 : ratI 4294967296 (sq4 4294967296 0 0 0) = 4294967296 := by
      unfold ratI
      rw [if_neg (by decide), show quoI (4294967296 * 4294967296 * 18446744073709551616) (sq4 4294967296 0 0 0) = 18446744073709551616 by decide +kernel]
      exact rootI_of (by decide) (by decide) (by decide)
    have g2 : ratI 0 (sq4 4294967296 0 0 0) = 0 := by
      unfold ratI
      rw [if_neg (by decide), show quoI (0 * 0 * 18446744073709551616) (sq4 4294967296 0 0 0) = 0 by decide +kernel]
      exact rootI_of (by decide) (by decide) (by decide)
    have pm : pmL 0 0 0 4294967296 0 0 0 0 0 (-21474836480) 0 0 0 2147483648 = ([.int .i64 0, .int .i64 0, .int .i64 (-10737418240), .int .i64 4294967296, .int .i64 0, .int .i64 0, .int .i64 0], false) := by
      have e := pm_val (p1 := 0) (p2 := 0) (p3 := 0) (q0 := 4294967296) (q1 := 0) (q2 := 0) (q3 := 0) (vx := 0) (vy := 0) (vz := -21474836480) (wx := 0) (wy := 0) (wz := 0) (t := 2147483648) (m1 := 0) (m2 := 0) (m3 := -10737418240)
        (by decide) pl tt (.inl ⟨rfl, rfl, rfl⟩) ⟨by decide +kernel, by decide +kernel, by decide +kernel⟩ (by unfold Place; decide)
      rw [e, g1, g2, show clampI 4294967296 = 4294967296 by decide, show clampI 0 = 0 by decide]
    have i1 : InI 4294967296 := by decide
    have i2 : InI 0 := by decide
    have i3 : InI 1 := by decide
    have i4 : InI 2147483648 := by decide
    have i5 : InI (-42949672960) := by decide
    have i6 : InI (-21474836480) := by decide
    have h1 : ShP 1 4294967296 0 0 0 0 (fun _ => 0) := ⟨i3, i1, i2, i2, i2, by decide, fun j hj => by omega⟩
    have h2 : ShP 0 0 0 0 0 0 (fun _ => 0) := ⟨i2, i2, i2, i2, i2, by decide, fun j hj => by omega⟩
    simp (maxSteps := 10000000) [Tryz.f8, fallS, goS, boCkS, copyR, eq_true h1, eq_true h2, i1, i2, i3, i4, i5, i6, b1, b2, b3, m1, m2, s1, s2, pm]
  · simp at h
end Go.X
