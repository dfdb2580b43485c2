/- Any body that falls, goes on, or gets other speeds, is the document's, or refused. -/
import Derived.Test.YtgejbdalmjopiaaGreatJTN1
import Derived.Test.YtgejbdalmjopiaaGreatJTN2
import Derived.Test.YtgejbdalmjopiaaGreatGB
namespace Go.X
open Go.Proofs
attribute [local irreducible] Good
set_option maxHeartbeats 400000000 in
set_option maxRecDepth 100000 in
theorem lawFall24_sl {ident kd r x y z p1 p2 p3 q0 q1 q2 q3 M vx vy vz wx wy wz rub gx gy gz hx hy hz t : Int} {n o1 c : Nat} {f : Nat → Int} {items : List AV} {ty : TypeId} (hc : (InI ident ∧ (InI p1 ∧ InI p2 ∧ InI p3 ∧ InI q0 ∧ InI q1 ∧ InI q2 ∧ InI q3) ∧ (InI M ∧ (InI vx ∧ InI vy ∧ InI vz) ∧ (InI wx ∧ InI wy ∧ InI wz)) ∧ InI rub) ∧ LwP kd r x y z n f ∧ InI gx ∧ InI gy ∧ InI gz ∧ InI hx ∧ InI hy ∧ InI hz ∧ InI t)
    (hE : ∀ (ts : List AV) (x : List Blk) (df : List (FuncId × List AV)), listE (St.mem ⟨ts, (⟨items, ty⟩ : Blk) :: x, df⟩) (.slice 0 o1 n c) = some (n, f))
    (hE2 : ∀ (ts : List AV) (x : List Blk) (df : List (FuncId × List AV)) (l : List Nat), 0 ∈ l → listE (envOf (St.mem ⟨ts, (⟨items, ty⟩ : Blk) :: x, df⟩) l) (.slice 0 o1 n c) = some (n, f)) :
    lawFall24G lawFallL 1 [.agg [.int .i64 ident, .int .i64 kd, .int .i64 r, .int .i64 x, .int .i64 y, .int .i64 z, .slice 0 o1 n c, .int .i64 p1, .int .i64 p2, .int .i64 p3, .int .i64 q0, .int .i64 q1, .int .i64 q2, .int .i64 q3, .int .i64 M, .int .i64 vx, .int .i64 vy, .int .i64 vz, .int .i64 wx, .int .i64 wy, .int .i64 wz, .int .i64 rub], .agg [.int .i64 gx, .int .i64 gy, .int .i64 gz], .agg [.int .i64 hx, .int .i64 hy, .int .i64 hz], .int .i64 t] [⟨items, ty⟩] := by
  obtain ⟨⟨hid, ⟨i1, i2, i3, j0, j1, j2, j3⟩, ⟨hM, ⟨v0, v1, v2⟩, w0, w1, w2⟩, hrub⟩, hlw, g0, g1, g2, h0, h1, h2, ht⟩ := id hc
  unfold lawFall24G
  by_cases hn : (100 : Int) < n
  · simp (maxSteps := 10000000) [lawFall24Body, lawFall24ST, Tryz.f5, hn]
  · have hct := eq_true (hlw.sh hn)
    have h7 : n ≤ 256 := by omega
    by_cases ok : boI ident kd r x y z n f p1 p2 p3 q0 q1 q2 q3 M vx vy vz wx wy wz rub = 0 ∧ 0 ≤ t ∧ t ≤ 4294967296
    · have okt := eq_true ok
      by_cases m0 : M = 0
      · subst m0
        simp (maxSteps := 10000000) [lawFall24Body, lawFall24ST, Tryz.f5, lawFallL, fallS, rfallS, goS, rgoS, withS, rwithS, copyR, boSameS, sameClS, BoEq_cut, hct, h7, hid, i1, i2, i3, j0, j1, j2, j3, hM, v0, v1, v2, w0, w1, w2, hrub, g0, g1, g2, h0, h1, h2, ht, hE, okt, hn]
      · exact lawFall24_sl2 hc hE hE2 hn ok m0
    · have okt := eq_false ok
      simp (maxSteps := 10000000) [lawFall24Body, lawFall24ST, Tryz.f5, lawFallL, fallS, rfallS, goS, rgoS, withS, rwithS, copyR, boSameS, sameClS, BoEq_same, BoEq_cut, hct, h7, hid, i1, i2, i3, j0, j1, j2, j3, hM, v0, v1, v2, w0, w1, w2, hrub, g0, g1, g2, h0, h1, h2, ht, hE, okt, hn]
noncomputable def lawFall24S : Sum := fun args env _ => match args with
  | [.agg [.int .i64 ident, .int .i64 kd, .int .i64 r, .int .i64 x, .int .i64 y, .int .i64 z, l, .int .i64 p1, .int .i64 p2, .int .i64 p3, .int .i64 q0, .int .i64 q1, .int .i64 q2, .int .i64 q3, .int .i64 M, .int .i64 vx, .int .i64 vy, .int .i64 vz, .int .i64 wx, .int .i64 wy, .int .i64 wz, .int .i64 rub], .agg [.int .i64 gx, .int .i64 gy, .int .i64 gz], .agg [.int .i64 hx, .int .i64 hy, .int .i64 hz], .int .i64 t] => match listE env l with
    | some (n, f) => open Classical in if (InI ident ∧ (InI p1 ∧ InI p2 ∧ InI p3 ∧ InI q0 ∧ InI q1 ∧ InI q2 ∧ InI q3) ∧ (InI M ∧ (InI vx ∧ InI vy ∧ InI vz) ∧ (InI wx ∧ InI wy ∧ InI wz)) ∧ InI rub) ∧ LwP kd r x y z n f ∧ InI gx ∧ InI gy ∧ InI gz ∧ InI hx ∧ InI hy ∧ InI hz ∧ InI t then .val (.bool true) [] [] else .fail
    | none => .fail
  | _ => .fail
set_option maxHeartbeats 400000000 in
set_option maxRecDepth 100000 in
theorem lawFall24_ok : SumOk Tryz.prog 5 lawFall24S := by
  refine sum_read (L := lawFallL) (n := 1) (S := stOf lawFall24ST) (DrawSound.two drawS) Tryz.T_ok (stOf_ok (by simp [lawFall24ST, fall_ok, rfall_ok, go_ok, rgo_ok, with_ok, rwith_ok, r24same_ok, sameCl_ok, awake24_ok])) Tryz.func5 rfl (by kernel_rfl) (by kernel_rfl) ?_
  intro args env nxt h
  unfold lawFall24S at h ⊢
  split at h
  · rename_i ident kd r x y z l p1 p2 p3 q0 q1 q2 q3 M vx vy vz wx wy wz rub gx gy gz hx hy hz t
    split at h
    · rename_i n f hl
      split at h
      · rename_i hc
        simp only [if_pos hc]
        obtain ⟨⟨hid, ⟨i1, i2, i3, j0, j1, j2, j3⟩, ⟨hM, ⟨v0, v1, v2⟩, w0, w1, w2⟩, hrub⟩, hlw, g0, g1, g2, h0, h1, h2, ht⟩ := id hc
        rcases laid_shape (fun l => [.agg [.int .i64 ident, .int .i64 kd, .int .i64 r, .int .i64 x, .int .i64 y, .int .i64 z, l, .int .i64 p1, .int .i64 p2, .int .i64 p3, .int .i64 q0, .int .i64 q1, .int .i64 q2, .int .i64 q3, .int .i64 M, .int .i64 vx, .int .i64 vy, .int .i64 vz, .int .i64 wx, .int .i64 wy, .int .i64 wz, .int .i64 rub], .agg [.int .i64 gx, .int .i64 gy, .int .i64 gz], .agg [.int .i64 hx, .int .i64 hy, .int .i64 hz], .int .i64 t]) hl (fun _ _ => rfl) (fun l => by simp) with ⟨rfl, rfl, rfl, hlaid⟩ | ⟨p, o1, c, items, ty, rfl, hlaid, hnc, hr', -, hE, hE2, hload⟩
        · refine ⟨_, _, _, .bool true, hlaid, rfl, rfl, rfl, ?_⟩
          exact lawFall24_nil hc
        · refine ⟨_, _, _, .bool true, hlaid, rfl, rfl, rfl, ?_⟩
          exact lawFall24_sl hc hE hE2
      · simp [*] at h
    · simp [*] at h
  · simp at h
end Go.X
