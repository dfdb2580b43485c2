/- The product of two units: the law. -/
import Derived.Test.YtfhooccdhmkaoaaJMX
import Derived.Test.YtfhooccdhmkaoaaJT0
import Derived.Test.YtfhooccdhmkaoaaJT1
namespace Go.X
open Go.Proofs
attribute [local irreducible] Good

theorem both_InI {m z : Int} (h : m - z ≤ 64 ∧ z - m ≤ 64) (hz : -4294967296 ≤ z ∧ z ≤ 4294967296) : (-2305843009213693952 ≤ m ∧ m ≤ 2305843009213693952) ∧ InI m := by unfold InI; omega
theorem wide_InI {z : Int} (hz : -4294967304 ≤ z ∧ z ≤ 4294967304) : InI z := by unfold InI; omega
theorem sq4_unit {s : Int} (h1 : 18446744073709551616 - 17179869252 ≤ s) (h2 : s ≤ 18446744073709551616 + 17179869252) : 18446744056529682364 ≤ s ∧ s ≤ 18446744090889420868 := by omega

noncomputable def nears5S : List AV → PR
  | [.agg [.int .i64 x1, .int .i64 x2, .int .i64 x3], .agg [.int .i64 y1, .int .i64 y2, .int .i64 y3]] => open Classical in if -2305843009213693952 ≤ x1 ∧ x1 ≤ 2305843009213693952 ∧ -2305843009213693952 ≤ x2 ∧ x2 ≤ 2305843009213693952 ∧ -2305843009213693952 ≤ x3 ∧ x3 ≤ 2305843009213693952 ∧ -2305843009213693952 ≤ y1 ∧ y1 ≤ 2305843009213693952 ∧ -2305843009213693952 ≤ y2 ∧ y2 ≤ 2305843009213693952 ∧ -2305843009213693952 ≤ y3 ∧ y3 ≤ 2305843009213693952 ∧ x1 - y1 ≤ 64 ∧ y1 - x1 ≤ 64 ∧ x2 - y2 ≤ 64 ∧ y2 - x2 ≤ 64 ∧ x3 - y3 ≤ 64 ∧ y3 - x3 ≤ 64 then .val (.bool true) else .fail
  | _ => .fail
@[simp] theorem nears5S_val {x1 x2 x3 y1 y2 y3 : Int} (h : -2305843009213693952 ≤ x1 ∧ x1 ≤ 2305843009213693952 ∧ -2305843009213693952 ≤ x2 ∧ x2 ≤ 2305843009213693952 ∧ -2305843009213693952 ≤ x3 ∧ x3 ≤ 2305843009213693952 ∧ -2305843009213693952 ≤ y1 ∧ y1 ≤ 2305843009213693952 ∧ -2305843009213693952 ≤ y2 ∧ y2 ≤ 2305843009213693952 ∧ -2305843009213693952 ≤ y3 ∧ y3 ≤ 2305843009213693952 ∧ x1 - y1 ≤ 64 ∧ y1 - x1 ≤ 64 ∧ x2 - y2 ≤ 64 ∧ y2 - x2 ≤ 64 ∧ x3 - y3 ≤ 64 ∧ y3 - x3 ≤ 64) : nears5S [.agg [.int .i64 x1, .int .i64 x2, .int .i64 x3], .agg [.int .i64 y1, .int .i64 y2, .int .i64 y3]] = .val (.bool true) := if_pos h
theorem nears5_ok : SumOk Try.prog 27 (pureS nears5S) := by
  refine sum_fn (L := fun _ => none) (n := 1) (S := stOf [(77, pureS near5S)]) drawS Try.T_ok (stOf_ok (by simp [near5_ok])) Try.func27 rfl (by kernel_rfl) (by kernel_rfl) ?_
    (by intro args v h; unfold nears5S at h; split at h <;> (try split at h) <;> simp at h)
  intro args v h
  unfold nears5S at h
  split at h
  · rename_i x1 x2 x3 y1 y2 y3
    split at h
    · rename_i hc
      obtain ⟨e0, e1, e2, e3, e4, e5, e6, e7, e8, e9, e10, e11, e12, e13, e14, e15, e16, e17⟩ := hc
      cases h
      refine ⟨by simp, by simp, by simp, ?_⟩
      simp [Try.f27, e0, e1, e2, e3, e4, e5, e6, e7, e8, e9, e10, e11, e12, e13, e14, e15, e16, e17]
    · simp at h
  · simp at h

noncomputable def lawBoth5S : List AV → PR
  | [.agg [.int .i64 a, .int .i64 b, .int .i64 c, .int .i64 d], .agg [.int .i64 e, .int .i64 f, .int .i64 g, .int .i64 k]] => open Classical in if InI a ∧ InI b ∧ InI c ∧ InI d ∧ InI e ∧ InI f ∧ InI g ∧ InI k then .val (.bool true) else .fail
  | _ => .fail
@[simp] theorem lawBoth5S_val {a b c d e f g k : Int} (h : InI a ∧ InI b ∧ InI c ∧ InI d ∧ InI e ∧ InI f ∧ InI g ∧ InI k) : lawBoth5S [.agg [.int .i64 a, .int .i64 b, .int .i64 c, .int .i64 d], .agg [.int .i64 e, .int .i64 f, .int .i64 g, .int .i64 k]] = .val (.bool true) := if_pos h
set_option maxHeartbeats 400000000 in
set_option maxRecDepth 100000 in
theorem lawBoth5_ok : SumOk Try.prog 6 (pureS lawBoth5S) := by
  refine sum_fn (L := fun _ => none) (n := 1) (S := stOf [(17, pureS mMulS), (24, pureS awake5S), (27, pureS nears5S), (25, pureS qMatrixS), (26, pureS qMulS), (23, pureS qUnitS)]) drawS Try.T_ok (stOf_ok (by simp [mMul_ok, awake5_ok, nears5_ok, qMatrix_ok, qMul_ok, qUnit_ok])) Try.func6 rfl (by kernel_rfl) (by kernel_rfl) ?_
    (by intro args v h; unfold lawBoth5S at h; split at h <;> (try split at h) <;> simp at h)
  intro args v h
  unfold lawBoth5S at h
  split at h
  · rename_i a b c d e f g k
    split at h
    · rename_i hc
      obtain ⟨ha, hb, hc, hd, he, hf, hg, hk⟩ := hc
      cases h
      refine ⟨by simp, by simp, by simp, ?_⟩
      by_cases tp : TurnP a b c d
      · by_cases tq : TurnP e f g k
        · have sp := Turn_pos tp
          have sq := Turn_pos tq
          obtain ⟨u0, u1, u2, u3, g10, g11, g12, g13, rg10, rg11, rg12, rg13, s10, s11, s12, s13, t1a, t1b⟩ := unit_near sp
          have j10 := small_InI rg10
          have l10 := clampI_self j10
          have j11 := small_InI rg11
          have l11 := clampI_self j11
          have j12 := small_InI rg12
          have l12 := clampI_self j12
          have j13 := small_InI rg13
          have l13 := clampI_self j13
          have tt1 : TurnP u0 u1 u2 u3 := by unfold TurnP; omega
          have tp1 := Turn_pos tt1
          have tr1 := sq4_unit t1a t1b
          obtain ⟨v0, v1, v2, v3, g20, g21, g22, g23, rg20, rg21, rg22, rg23, s20, s21, s22, s23, t2a, t2b⟩ := unit_near sq
          have j20 := small_InI rg20
          have l20 := clampI_self j20
          have j21 := small_InI rg21
          have l21 := clampI_self j21
          have j22 := small_InI rg22
          have l22 := clampI_self j22
          have j23 := small_InI rg23
          have l23 := clampI_self j23
          have tt2 : TurnP v0 v1 v2 v3 := by unfold TurnP; omega
          have tp2 := Turn_pos tt2
          have tr2 := sq4_unit t2a t2b
          obtain ⟨C0, hC0⟩ : ∃ c, qW u0 u1 u2 u3 v0 v1 v2 v3 = c := ⟨_, rfl⟩
          obtain ⟨D0, hD0⟩ : ∃ c, C0 / 4294967296 = c := ⟨_, rfl⟩
          obtain ⟨C1, hC1⟩ : ∃ c, qX u0 u1 u2 u3 v0 v1 v2 v3 = c := ⟨_, rfl⟩
          obtain ⟨D1, hD1⟩ : ∃ c, C1 / 4294967296 = c := ⟨_, rfl⟩
          obtain ⟨C2, hC2⟩ : ∃ c, qY u0 u1 u2 u3 v0 v1 v2 v3 = c := ⟨_, rfl⟩
          obtain ⟨D2, hD2⟩ : ∃ c, C2 / 4294967296 = c := ⟨_, rfl⟩
          obtain ⟨C3, hC3⟩ : ∃ c, qZ u0 u1 u2 u3 v0 v1 v2 v3 = c := ⟨_, rfl⟩
          obtain ⟨D3, hD3⟩ : ∃ c, C3 / 4294967296 = c := ⟨_, rfl⟩
          have sm := sq4_mul u0 u1 u2 u3 v0 v1 v2 v3
          have sr := sq_range tr1 tr2
          have m00 := r00_mul u0 u1 u2 u3 v0 v1 v2 v3
          have m01 := r01_mul u0 u1 u2 u3 v0 v1 v2 v3
          have m02 := r02_mul u0 u1 u2 u3 v0 v1 v2 v3
          have m10 := r10_mul u0 u1 u2 u3 v0 v1 v2 v3
          have m11 := r11_mul u0 u1 u2 u3 v0 v1 v2 v3
          have m12 := r12_mul u0 u1 u2 u3 v0 v1 v2 v3
          have m20 := r20_mul u0 u1 u2 u3 v0 v1 v2 v3
          have m21 := r21_mul u0 u1 u2 u3 v0 v1 v2 v3
          have m22 := r22_mul u0 u1 u2 u3 v0 v1 v2 v3
          rw [hC0, hC1, hC2, hC3] at sm m00 m01 m02 m10 m11 m12 m20 m21 m22
          obtain ⟨b0, b1, b2, b3, tt, ns, n00, n01, n02, n10, n11, n12, n20, n21, n22⟩ := quat_div sm sr.1 sr.2 hD0 hD1 hD2 hD3
          have jd0 := wide_InI b0
          have ld0 := clampI_self jd0
          have jd1 := wide_InI b1
          have ld1 := clampI_self jd1
          have jd2 := wide_InI b2
          have ld2 := clampI_self jd2
          have jd3 := wide_InI b3
          have ld3 := clampI_self jd3
          have td := Turn_pos tt
          have qx0 : r00 u0 u1 u2 u3 * r00 u0 u1 u2 u3 + r01 u0 u1 u2 u3 * r01 u0 u1 u2 u3 + r02 u0 u1 u2 u3 * r02 u0 u1 u2 u3 = sq4 u0 u1 u2 u3 * sq4 u0 u1 u2 u3 := by unfold r00 r01 r02 sq4; grind
          obtain ⟨x00, x01, x02, ex00, ex01, ex02, bx00, bx01, bx02, _, _⟩ := row_near tp1 qx0
          have jx00 := small_InI bx00
          have lx00 := clampI_self jx00
          have jx01 := small_InI bx01
          have lx01 := clampI_self jx01
          have jx02 := small_InI bx02
          have lx02 := clampI_self jx02
          have qx1 : r10 u0 u1 u2 u3 * r10 u0 u1 u2 u3 + r11 u0 u1 u2 u3 * r11 u0 u1 u2 u3 + r12 u0 u1 u2 u3 * r12 u0 u1 u2 u3 = sq4 u0 u1 u2 u3 * sq4 u0 u1 u2 u3 := by unfold r10 r11 r12 sq4; grind
          obtain ⟨x10, x11, x12, ex10, ex11, ex12, bx10, bx11, bx12, _, _⟩ := row_near tp1 qx1
          have jx10 := small_InI bx10
          have lx10 := clampI_self jx10
          have jx11 := small_InI bx11
          have lx11 := clampI_self jx11
          have jx12 := small_InI bx12
          have lx12 := clampI_self jx12
          have qx2 : r20 u0 u1 u2 u3 * r20 u0 u1 u2 u3 + r21 u0 u1 u2 u3 * r21 u0 u1 u2 u3 + r22 u0 u1 u2 u3 * r22 u0 u1 u2 u3 = sq4 u0 u1 u2 u3 * sq4 u0 u1 u2 u3 := by unfold r20 r21 r22 sq4; grind
          obtain ⟨x20, x21, x22, ex20, ex21, ex22, bx20, bx21, bx22, _, _⟩ := row_near tp1 qx2
          have jx20 := small_InI bx20
          have lx20 := clampI_self jx20
          have jx21 := small_InI bx21
          have lx21 := clampI_self jx21
          have jx22 := small_InI bx22
          have lx22 := clampI_self jx22
          have qy0 : r00 v0 v1 v2 v3 * r00 v0 v1 v2 v3 + r01 v0 v1 v2 v3 * r01 v0 v1 v2 v3 + r02 v0 v1 v2 v3 * r02 v0 v1 v2 v3 = sq4 v0 v1 v2 v3 * sq4 v0 v1 v2 v3 := by unfold r00 r01 r02 sq4; grind
          obtain ⟨y00, y01, y02, ey00, ey01, ey02, by00, by01, by02, _, _⟩ := row_near tp2 qy0
          have jy00 := small_InI by00
          have ly00 := clampI_self jy00
          have jy01 := small_InI by01
          have ly01 := clampI_self jy01
          have jy02 := small_InI by02
          have ly02 := clampI_self jy02
          have qy1 : r10 v0 v1 v2 v3 * r10 v0 v1 v2 v3 + r11 v0 v1 v2 v3 * r11 v0 v1 v2 v3 + r12 v0 v1 v2 v3 * r12 v0 v1 v2 v3 = sq4 v0 v1 v2 v3 * sq4 v0 v1 v2 v3 := by unfold r10 r11 r12 sq4; grind
          obtain ⟨y10, y11, y12, ey10, ey11, ey12, by10, by11, by12, _, _⟩ := row_near tp2 qy1
          have jy10 := small_InI by10
          have ly10 := clampI_self jy10
          have jy11 := small_InI by11
          have ly11 := clampI_self jy11
          have jy12 := small_InI by12
          have ly12 := clampI_self jy12
          have qy2 : r20 v0 v1 v2 v3 * r20 v0 v1 v2 v3 + r21 v0 v1 v2 v3 * r21 v0 v1 v2 v3 + r22 v0 v1 v2 v3 * r22 v0 v1 v2 v3 = sq4 v0 v1 v2 v3 * sq4 v0 v1 v2 v3 := by unfold r20 r21 r22 sq4; grind
          obtain ⟨y20, y21, y22, ey20, ey21, ey22, by20, by21, by22, _, _⟩ := row_near tp2 qy2
          have jy20 := small_InI by20
          have ly20 := clampI_self jy20
          have jy21 := small_InI by21
          have ly21 := clampI_self jy21
          have jy22 := small_InI by22
          have ly22 := clampI_self jy22
          have qz0 : r00 D0 D1 D2 D3 * r00 D0 D1 D2 D3 + r01 D0 D1 D2 D3 * r01 D0 D1 D2 D3 + r02 D0 D1 D2 D3 * r02 D0 D1 D2 D3 = sq4 D0 D1 D2 D3 * sq4 D0 D1 D2 D3 := by unfold r00 r01 r02 sq4; grind
          obtain ⟨z00, z01, z02, ez00, ez01, ez02, bz00, bz01, bz02, _, _⟩ := row_near td qz0
          have jz00 := small_InI bz00
          have lz00 := clampI_self jz00
          have jz01 := small_InI bz01
          have lz01 := clampI_self jz01
          have jz02 := small_InI bz02
          have lz02 := clampI_self jz02
          have qz1 : r10 D0 D1 D2 D3 * r10 D0 D1 D2 D3 + r11 D0 D1 D2 D3 * r11 D0 D1 D2 D3 + r12 D0 D1 D2 D3 * r12 D0 D1 D2 D3 = sq4 D0 D1 D2 D3 * sq4 D0 D1 D2 D3 := by unfold r10 r11 r12 sq4; grind
          obtain ⟨z10, z11, z12, ez10, ez11, ez12, bz10, bz11, bz12, _, _⟩ := row_near td qz1
          have jz10 := small_InI bz10
          have lz10 := clampI_self jz10
          have jz11 := small_InI bz11
          have lz11 := clampI_self jz11
          have jz12 := small_InI bz12
          have lz12 := clampI_self jz12
          have qz2 : r20 D0 D1 D2 D3 * r20 D0 D1 D2 D3 + r21 D0 D1 D2 D3 * r21 D0 D1 D2 D3 + r22 D0 D1 D2 D3 * r22 D0 D1 D2 D3 = sq4 D0 D1 D2 D3 * sq4 D0 D1 D2 D3 := by unfold r20 r21 r22 sq4; grind
          obtain ⟨z20, z21, z22, ez20, ez21, ez22, bz20, bz21, bz22, _, _⟩ := row_near td qz2
          have jz20 := small_InI bz20
          have lz20 := clampI_self jz20
          have jz21 := small_InI bz21
          have lz21 := clampI_self jz21
          have jz22 := small_InI bz22
          have lz22 := clampI_self jz22
          have sl : 340282366920938463463374607431768211456 ≤ 2 * (sq4 u0 u1 u2 u3 * sq4 v0 v1 v2 v3) := by omega
          obtain ⟨w00, hw00⟩ : ∃ c, (x00 * y00 + x01 * y10 + x02 * y20) / 4294967296 = c := ⟨_, rfl⟩
          have o00 := both_near tp1 tp2 rfl m00 ex00 ex01 ex02 ey00 ey10 ey20 bx00 bx01 bx02 by00 by10 by20 td n00 ns sl ez00 bz00 hw00
          obtain ⟨⟨f00, h00⟩, jw00⟩ := both_InI o00 bz00
          have lw00 := clampI_self jw00
          have c00 : -2305843009213693952 ≤ z00 := by omega
          have d00 : z00 ≤ 2305843009213693952 := by omega
          have o00a := o00.1
          have o00b := o00.2
          obtain ⟨w01, hw01⟩ : ∃ c, (x00 * y01 + x01 * y11 + x02 * y21) / 4294967296 = c := ⟨_, rfl⟩
          have o01 := both_near tp1 tp2 rfl m01 ex00 ex01 ex02 ey01 ey11 ey21 bx00 bx01 bx02 by01 by11 by21 td n01 ns sl ez01 bz01 hw01
          obtain ⟨⟨f01, h01⟩, jw01⟩ := both_InI o01 bz01
          have lw01 := clampI_self jw01
          have c01 : -2305843009213693952 ≤ z01 := by omega
          have d01 : z01 ≤ 2305843009213693952 := by omega
          have o01a := o01.1
          have o01b := o01.2
          obtain ⟨w02, hw02⟩ : ∃ c, (x00 * y02 + x01 * y12 + x02 * y22) / 4294967296 = c := ⟨_, rfl⟩
          have o02 := both_near tp1 tp2 rfl m02 ex00 ex01 ex02 ey02 ey12 ey22 bx00 bx01 bx02 by02 by12 by22 td n02 ns sl ez02 bz02 hw02
          obtain ⟨⟨f02, h02⟩, jw02⟩ := both_InI o02 bz02
          have lw02 := clampI_self jw02
          have c02 : -2305843009213693952 ≤ z02 := by omega
          have d02 : z02 ≤ 2305843009213693952 := by omega
          have o02a := o02.1
          have o02b := o02.2
          obtain ⟨w10, hw10⟩ : ∃ c, (x10 * y00 + x11 * y10 + x12 * y20) / 4294967296 = c := ⟨_, rfl⟩
          have o10 := both_near tp1 tp2 rfl m10 ex10 ex11 ex12 ey00 ey10 ey20 bx10 bx11 bx12 by00 by10 by20 td n10 ns sl ez10 bz10 hw10
          obtain ⟨⟨f10, h10⟩, jw10⟩ := both_InI o10 bz10
          have lw10 := clampI_self jw10
          have c10 : -2305843009213693952 ≤ z10 := by omega
          have d10 : z10 ≤ 2305843009213693952 := by omega
          have o10a := o10.1
          have o10b := o10.2
          obtain ⟨w11, hw11⟩ : ∃ c, (x10 * y01 + x11 * y11 + x12 * y21) / 4294967296 = c := ⟨_, rfl⟩
          have o11 := both_near tp1 tp2 rfl m11 ex10 ex11 ex12 ey01 ey11 ey21 bx10 bx11 bx12 by01 by11 by21 td n11 ns sl ez11 bz11 hw11
          obtain ⟨⟨f11, h11⟩, jw11⟩ := both_InI o11 bz11
          have lw11 := clampI_self jw11
          have c11 : -2305843009213693952 ≤ z11 := by omega
          have d11 : z11 ≤ 2305843009213693952 := by omega
          have o11a := o11.1
          have o11b := o11.2
          obtain ⟨w12, hw12⟩ : ∃ c, (x10 * y02 + x11 * y12 + x12 * y22) / 4294967296 = c := ⟨_, rfl⟩
          have o12 := both_near tp1 tp2 rfl m12 ex10 ex11 ex12 ey02 ey12 ey22 bx10 bx11 bx12 by02 by12 by22 td n12 ns sl ez12 bz12 hw12
          obtain ⟨⟨f12, h12⟩, jw12⟩ := both_InI o12 bz12
          have lw12 := clampI_self jw12
          have c12 : -2305843009213693952 ≤ z12 := by omega
          have d12 : z12 ≤ 2305843009213693952 := by omega
          have o12a := o12.1
          have o12b := o12.2
          obtain ⟨w20, hw20⟩ : ∃ c, (x20 * y00 + x21 * y10 + x22 * y20) / 4294967296 = c := ⟨_, rfl⟩
          have o20 := both_near tp1 tp2 rfl m20 ex20 ex21 ex22 ey00 ey10 ey20 bx20 bx21 bx22 by00 by10 by20 td n20 ns sl ez20 bz20 hw20
          obtain ⟨⟨f20, h20⟩, jw20⟩ := both_InI o20 bz20
          have lw20 := clampI_self jw20
          have c20 : -2305843009213693952 ≤ z20 := by omega
          have d20 : z20 ≤ 2305843009213693952 := by omega
          have o20a := o20.1
          have o20b := o20.2
          obtain ⟨w21, hw21⟩ : ∃ c, (x20 * y01 + x21 * y11 + x22 * y21) / 4294967296 = c := ⟨_, rfl⟩
          have o21 := both_near tp1 tp2 rfl m21 ex20 ex21 ex22 ey01 ey11 ey21 bx20 bx21 bx22 by01 by11 by21 td n21 ns sl ez21 bz21 hw21
          obtain ⟨⟨f21, h21⟩, jw21⟩ := both_InI o21 bz21
          have lw21 := clampI_self jw21
          have c21 : -2305843009213693952 ≤ z21 := by omega
          have d21 : z21 ≤ 2305843009213693952 := by omega
          have o21a := o21.1
          have o21b := o21.2
          obtain ⟨w22, hw22⟩ : ∃ c, (x20 * y02 + x21 * y12 + x22 * y22) / 4294967296 = c := ⟨_, rfl⟩
          have o22 := both_near tp1 tp2 rfl m22 ex20 ex21 ex22 ey02 ey12 ey22 bx20 bx21 bx22 by02 by12 by22 td n22 ns sl ez22 bz22 hw22
          obtain ⟨⟨f22, h22⟩, jw22⟩ := both_InI o22 bz22
          have lw22 := clampI_self jw22
          have c22 : -2305843009213693952 ≤ z22 := by omega
          have d22 : z22 ≤ 2305843009213693952 := by omega
          have o22a := o22.1
          have o22b := o22.2
          simp (maxSteps := 10000000) [ha, hb, hc, hd, he, hf, hg, hk, Try.f6, tp, tq, g10, j10, l10, g11, j11, l11, g12, j12, l12, g13, j13, l13, tt1, g20, j20, l20, g21, j21, l21, g22, j22, l22, g23, j23, l23, tt2, hC0, hD0, jd0, ld0, hC1, hD1, jd1, ld1, hC2, hD2, jd2, ld2, hC3, hD3, jd3, ld3, tt, ex00, jx00, lx00, ex01, jx01, lx01, ex02, jx02, lx02, ex10, jx10, lx10, ex11, jx11, lx11, ex12, jx12, lx12, ex20, jx20, lx20, ex21, jx21, lx21, ex22, jx22, lx22, ey00, jy00, ly00, ey01, jy01, ly01, ey02, jy02, ly02, ey10, jy10, ly10, ey11, jy11, ly11, ey12, jy12, ly12, ey20, jy20, ly20, ey21, jy21, ly21, ey22, jy22, ly22, ez00, lz00, ez01, lz01, ez02, lz02, ez10, lz10, ez11, lz11, ez12, lz12, ez20, lz20, ez21, lz21, ez22, lz22, hw00, f00, h00, lw00, c00, d00, o00a, o00b, hw01, f01, h01, lw01, c01, d01, o01a, o01b, hw02, f02, h02, lw02, c02, d02, o02a, o02b, hw10, f10, h10, lw10, c10, d10, o10a, o10b, hw11, f11, h11, lw11, c11, d11, o11a, o11b, hw12, f12, h12, lw12, c12, d12, o12a, o12b, hw20, f20, h20, lw20, c20, d20, o20a, o20b, hw21, f21, h21, lw21, c21, d21, o21a, o21b, hw22, f22, h22, lw22, c22, d22, o22a, o22b]
        · simp (maxSteps := 10000000) [ha, hb, hc, hd, he, hf, hg, hk, Try.f6, tp, tq]
      · by_cases tq : TurnP e f g k
        · simp (maxSteps := 10000000) [ha, hb, hc, hd, he, hf, hg, hk, Try.f6, tp, tq]
        · simp (maxSteps := 10000000) [ha, hb, hc, hd, he, hf, hg, hk, Try.f6, tp, tq]
    · simp at h
  · simp at h

end Go.X
