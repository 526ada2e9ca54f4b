/- The walk of FnExactUnpackPacket. -/
import Derived.Test.YtnkdhpbbiilekaaKy
namespace Go.Proofs.Ytnkdhpbbiilekaa
open Go.RowKit
set_option maxHeartbeats 8000000 in
theorem FnExactUnpackPacket_walk (A : Option Addr) (c : Nat) (l : List Int) (w : World) (hc : c ≤ maxLen) (hs : Sl encI 1 w A c l) :
    Calls Try.prog 13 #[.slice A l.length c] w (Ret w (.bool true)) := by
  have hlc := hs.1
  unfold maxLen at hc
  by_cases hbig : 1048576 < l.length
  · go_enter Try.func13, Try.ntmps13
    go_wp2
    go_ret
    exact ⟨rfl, Below.refl _ _⟩
  have hl2 : l.length ≤ 2000000 := by omega
  obtain ⟨wq, hwq⟩ : ∃ x, x = w := ⟨_, rfl⟩
  subst hwq
  have hq : Below wq.heap.size wq wq := Below.refl _ _
  have SL := Lib.hid (fun W (h : Below wq.heap.size wq W) => hs.below h)
  have hk : Below wq.heap.size wq wq := Below.refl _ _
  clear hs
  obtain ⟨r, hr⟩ : ∃ r, unpackO l = r := ⟨_, rfl⟩
  obtain ⟨x, hx⟩ : ∃ x, unpackP l = x := ⟨_, rfl⟩
  obtain ⟨k', fa', fp', ta', tp', D⟩ := x
  obtain ⟨m, hm⟩ : ∃ m, D.length = m := ⟨_, rfl⟩
  have hD2 : D.length ≤ 2000000 := by have := unpackP_len l; rw [hx] at this; exact Nat.le_trans this hl2
  have hm2 : m ≤ 2000000 := by omega
  have HR := Lib.hid hr
  have HX := Lib.hid hx
  have HM := Lib.hid hm
  clear hr hx hm
  go_enter Try.func13, Try.ntmps13
  go_wp2_with fail
  refine (laws_toIntS A c _ l _ rfl hl2 (SL.out _ hk)).mono ?_
  rintro e w1 ⟨Ar, cr, rfl, hr, hb1⟩
  have hk1 := bstep hk hb1 hk.size
  have z1 : wq.heap.size ≤ w1.heap.size := hb1.size
  have hcr : cr ≤ 9223372036854775807 := by have := hr.capm; unfold maxLen at this; exact this
  have R_1 := Lib.hid (hr.out)
  have SR := Lib.hid (R_1.out).span
  clear hr
  clear hb1
  go_wp2_with fail
  refine (spec_UPU HR.out HX.out HM.out rfl hl2 hcr (R_1.out).1).mono ?_
  rintro e w2 ⟨Aw, cw, rfl, hw, hb2⟩
  have hk2 := bstep hk1 hb2 hk1.size
  have z2 : w1.heap.size ≤ w2.heap.size := hb2.size
  have R_2 := Lib.hid ((R_1.out).below hb2)
  have Wr_2 := Lib.hid hw
  have SWr := Lib.hid (Wr_2.out).span
  clear hw
  clear hb2
  obtain ⟨w3, hw3⟩ : ∃ x, x = w2.alloc (.cells #[.int .i64 k', .int .i64 fa', .int .i64 fp', .int .i64 ta', .int .i64 tp', .slice Aw m cw] 27) := ⟨_, rfl⟩
  have hb3 : Below w2.heap.size w2 w3 := by subst hw3; exact (Below.refl _ _).alloc (Nat.le_refl _) _
  have z3 : w2.heap.size < w3.heap.size := by subst hw3; simp
  have pk3 : PkAt w3 w2.heap.size k' fa' fp' ta' tp' (.slice Aw m cw) := by subst hw3; exact PkAt.new _ _ _ _ _ _ _ _
  have WQ3 := Lib.hid hw3
  have hk3 := bstep hk2 hb3 hk2.size
  have Wr_3 := Lib.hid ((Wr_2.out).below hb3)
  have BW_3 := Lib.hid pk3
  clear hw3 hb3 pk3
  go_wp2_with fail
  rw [← WQ3.out]
  refine (laws_toIntS A c _ l _ rfl hl2 (SL.out _ hk3)).mono ?_
  rintro e w4 ⟨Ax, cx, rfl, hx, hb4⟩
  have hk4 := bstep hk3 hb4 hk3.size
  have z4 : w3.heap.size ≤ w4.heap.size := hb4.size
  have Wr_4 := Lib.hid ((Wr_3.out).below hb4)
  have BW_4 := Lib.hid ((BW_3.out).below_ hb4)
  have hcx : cx ≤ 9223372036854775807 := by have := hx.capm; unfold maxLen at this; exact this
  have X_4 := Lib.hid (hx.out)
  have SX := Lib.hid (X_4.out).span
  clear hx
  clear hb4
  go_wp2_with fail
  refine (impl_UPU HR.out HX.out HM.out rfl hl2 hcx (X_4.out).1).mono ?_
  rintro e w5 ⟨Ag, cg, rfl, hg, hb5⟩
  have hk5 := bstep hk4 hb5 hk4.size
  have z5 : w4.heap.size ≤ w5.heap.size := hb5.size
  have Wr_5 := Lib.hid ((Wr_4.out).below hb5)
  have BW_5 := Lib.hid ((BW_4.out).below_ hb5)
  have X_5 := Lib.hid ((X_4.out).below hb5)
  have Gr_5 := Lib.hid hg
  have SGr := Lib.hid (Gr_5.out).span
  clear hg
  clear hb5
  obtain ⟨w6, hw6⟩ : ∃ x, x = w5.alloc (.cells #[.int .i64 k', .int .i64 fa', .int .i64 fp', .int .i64 ta', .int .i64 tp', .slice Ag m cg] 27) := ⟨_, rfl⟩
  have hb6 : Below w5.heap.size w5 w6 := by subst hw6; exact (Below.refl _ _).alloc (Nat.le_refl _) _
  have z6 : w5.heap.size < w6.heap.size := by subst hw6; simp
  have pk6 : PkAt w6 w5.heap.size k' fa' fp' ta' tp' (.slice Ag m cg) := by subst hw6; exact PkAt.new _ _ _ _ _ _ _ _
  have WQ6 := Lib.hid hw6
  have hk6 := bstep hk5 hb6 hk5.size
  have Wr_6 := Lib.hid ((Wr_5.out).below hb6)
  have BW_6 := Lib.hid ((BW_5.out).below_ hb6)
  have X_6 := Lib.hid ((X_5.out).below hb6)
  have Gr_6 := Lib.hid ((Gr_5.out).below hb6)
  have BG_6 := Lib.hid pk6
  clear hw6 hb6 pk6
  obtain ⟨x60, x61, x62, x63, x64, x65⟩ := (BG_6.out).cells
  have ly6 := (BW_5.out).lt
  obtain ⟨y60, y61, y62, y63, y64, y65⟩ := (BW_5.out).cells
  go_wp2_with fail
  rw [← WQ6.out]
  refine (same_eqPacket (d := D) HM.out.symm HM.out.symm hD2 (Gr_6.out).1 (Wr_6.out).1).mono ?_
  rintro e w7 ⟨rfl, hb7⟩
  have hk7 := bstep hk6 hb7 hk6.size
  have z7 : w6.heap.size ≤ w7.heap.size := hb7.size
  have Wr_7 := Lib.hid ((Wr_6.out).below hb7)
  have BW_7 := Lib.hid ((BW_6.out).below_ hb7)
  have X_7 := Lib.hid ((X_6.out).below hb7)
  have Gr_7 := Lib.hid ((Gr_6.out).below hb7)
  have BG_7 := Lib.hid ((BG_6.out).below_ hb7)
  clear x60 x61 x62 x63 x64 x65 y60 y61 y62 y63 y64 y65
  clear hb7
  go_wp2_with fail
  refine (laws_toIntS A c _ l _ rfl hl2 (SL.out _ hk7)).mono ?_
  rintro e w8 ⟨Ay, cy, rfl, hy, hb8⟩
  have hk8 := bstep hk7 hb8 hk7.size
  have z8 : w7.heap.size ≤ w8.heap.size := hb8.size
  have Wr_8 := Lib.hid ((Wr_7.out).below hb8)
  have BW_8 := Lib.hid ((BW_7.out).below_ hb8)
  have X_8 := Lib.hid ((X_7.out).below hb8)
  have Gr_8 := Lib.hid ((Gr_7.out).below hb8)
  have BG_8 := Lib.hid ((BG_7.out).below_ hb8)
  have hcy : cy ≤ 9223372036854775807 := by have := hy.capm; unfold maxLen at this; exact this
  have Y_8 := Lib.hid (hy.out)
  have SY := Lib.hid (Y_8.out).span
  clear hy
  clear hb8
  go_wp2_with fail
  refine (eqIs (l := l) (l' := l) (r := true) (decide_eq_true rfl) rfl rfl hl2 hl2 (X_8.out).1 (Y_8.out).1).mono ?_
  rintro e w9 ⟨rfl, hb9⟩
  have hk9 := bstep hk8 hb9 hk8.size
  have z9 : w8.heap.size ≤ w9.heap.size := hb9.size
  have Wr_9 := Lib.hid ((Wr_8.out).below hb9)
  have BW_9 := Lib.hid ((BW_8.out).below_ hb9)
  have X_9 := Lib.hid ((X_8.out).below hb9)
  have Gr_9 := Lib.hid ((Gr_8.out).below hb9)
  have BG_9 := Lib.hid ((BG_8.out).below_ hb9)
  have Y_9 := Lib.hid ((Y_8.out).below hb9)
  clear hb9
  go_wp2_with fail
  refine (markZ rfl (by omega) (by omega) (by omega) (X_9.out)).mono ?_
  rintro e w10 ⟨rfl, hm10, row10, hg10, hr10⟩
  have hrow10 : ∀ g, row10 = some g → _ := fun g hg => (SX.out) g (hr10 g hg).1 (hr10 g hg).2
  have hk10 : Below wq.heap.size wq w10 := below_app hk9 hg10 hk9.size (fun g hg => by have := (hrow10 g hg).1; omega)
  have z10 : w9.heap.size ≤ w10.heap.size := hg10.size
  have Wr_10 := Lib.hid ((Wr_9.out).grownM hg10 (fun g hy hne hr => by have a1 := hrow10 g hr; have a2 := (SWr.out) g hy hne; omega))
  have BW_10 := Lib.hid ((BW_9.out).grown hg10 (fun e => by have := hrow10 _ e.symm; omega))
  have Gr_10 := Lib.hid ((Gr_9.out).grownM hg10 (fun g hy hne hr => by have a1 := hrow10 g hr; have a2 := (SGr.out) g hy hne; omega))
  have BG_10 := Lib.hid ((BG_9.out).grown hg10 (fun e => by have := hrow10 _ e.symm; omega))
  have X_10 := Lib.hid hm10
  clear hm10 hg10 hr10 hrow10
  have hnn : ¬ (1 + (l.length : Int) < 0) := by omega
  obtain ⟨x100, x101, x102, x103, x104, x105⟩ := (BG_10.out).cells
  obtain ⟨y100, y101, y102, y103, y104, y105⟩ := (BW_10.out).cells
  go_wp2_with fail
  refine (same_eqPacket (d := D) HM.out.symm HM.out.symm hD2 (Gr_10.out).1 (Wr_10.out).1).mono ?_
  rintro e w11 ⟨rfl, hb11⟩
  have hk11 := bstep hk10 hb11 hk10.size
  have z11 : w10.heap.size ≤ w11.heap.size := hb11.size
  have Wr_11 := Lib.hid ((Wr_10.out).below hb11)
  have BW_11 := Lib.hid ((BW_10.out).below_ hb11)
  have Gr_11 := Lib.hid ((Gr_10.out).below hb11)
  have BG_11 := Lib.hid ((BG_10.out).below_ hb11)
  clear x100 x101 x102 x103 x104 x105 y100 y101 y102 y103 y104 y105
  clear hb11
  have hnm : ¬ (1 + (m : Int) < 0) := by omega
  obtain ⟨x110, x111, x112, x113, x114, x115⟩ := (BG_11.out).cells
  go_wp2_with fail
  refine (markPk HM.out.symm (by omega) (by omega) (by omega) (Gr_11.out)).mono ?_
  rintro e w12 ⟨rfl, hm12, row12, hg12, hr12⟩
  have hrow12 : ∀ g, row12 = some g → _ := fun g hg => (SGr.out) g (hr12 g hg).1 (hr12 g hg).2
  have hk12 : Below wq.heap.size wq w12 := below_app hk11 hg12 hk11.size (fun g hg => by have := (hrow12 g hg).1; omega)
  have z12 : w11.heap.size ≤ w12.heap.size := hg12.size
  have Wr_12 := Lib.hid ((Wr_11.out).grownM hg12 (fun g hy hne hr => by have a1 := hrow12 g hr; have a2 := (SWr.out) g hy hne; omega))
  have BW_12 := Lib.hid ((BW_11.out).grown hg12 (fun e => by have := hrow12 _ e.symm; omega))
  have BG_12 := Lib.hid ((BG_11.out).grown hg12 (fun e => by have := hrow12 _ e.symm; omega))
  have Gr_12 := Lib.hid hm12
  clear x110 x111 x112 x113 x114 x115
  clear hm12 hg12 hr12 hrow12
  obtain ⟨x120, x121, x122, x123, x124, x125⟩ := (BG_12.out).cells
  go_wp2_with fail
  refine (laws_heldPacket _ _ _ _ _ _ _ m 1 _ (by omega) (by omega) (by omega) Gr_12.out).mono ?_
  rintro e w13 ⟨rfl, hb13⟩
  have hk13 := bstep hk12 hb13 hk12.size
  have z13 : w12.heap.size ≤ w13.heap.size := hb13.size
  have Wr_13 := Lib.hid ((Wr_12.out).below hb13)
  have BW_13 := Lib.hid ((BW_12.out).below_ hb13)
  have BG_13 := Lib.hid ((BG_12.out).below_ hb13)
  have Gr_13 := Lib.hid ((Gr_12.out).below hb13)
  clear x120 x121 x122 x123 x124 x125
  clear hb13
  go_wp2_with fail
  refine (laws_toIntS A c _ l _ rfl hl2 (SL.out _ hk13)).mono ?_
  rintro e w14 ⟨Ah, ch, rfl, hh, hb14⟩
  have hk14 := bstep hk13 hb14 hk13.size
  have z14 : w13.heap.size ≤ w14.heap.size := hb14.size
  have Wr_14 := Lib.hid ((Wr_13.out).below hb14)
  have BW_14 := Lib.hid ((BW_13.out).below_ hb14)
  have BG_14 := Lib.hid ((BG_13.out).below_ hb14)
  have Gr_14 := Lib.hid ((Gr_13.out).below hb14)
  have hch : ch ≤ 9223372036854775807 := by have := hh.capm; unfold maxLen at this; exact this
  have H_14 := Lib.hid (hh.out)
  have SH := Lib.hid (H_14.out).span
  clear hh
  clear hb14
  go_wp2_with fail
  refine (impl_UPU HR.out HX.out HM.out rfl hl2 hch (H_14.out).1).mono ?_
  rintro e w15 ⟨Ai, ci, rfl, hi, hb15⟩
  have hk15 := bstep hk14 hb15 hk14.size
  have z15 : w14.heap.size ≤ w15.heap.size := hb15.size
  have Wr_15 := Lib.hid ((Wr_14.out).below hb15)
  have BW_15 := Lib.hid ((BW_14.out).below_ hb15)
  have BG_15 := Lib.hid ((BG_14.out).below_ hb15)
  have Gr_15 := Lib.hid ((Gr_14.out).below hb15)
  have H_15 := Lib.hid ((H_14.out).below hb15)
  have I_15 := Lib.hid hi
  have SI := Lib.hid (I_15.out).span
  clear hi
  clear hb15
  obtain ⟨w16, hw16⟩ : ∃ x, x = w15.alloc (.cells #[.int .i64 k', .int .i64 fa', .int .i64 fp', .int .i64 ta', .int .i64 tp', .slice Ai m ci] 27) := ⟨_, rfl⟩
  have hb16 : Below w15.heap.size w15 w16 := by subst hw16; exact (Below.refl _ _).alloc (Nat.le_refl _) _
  have z16 : w15.heap.size < w16.heap.size := by subst hw16; simp
  have pk16 : PkAt w16 w15.heap.size k' fa' fp' ta' tp' (.slice Ai m ci) := by subst hw16; exact PkAt.new _ _ _ _ _ _ _ _
  have WQ16 := Lib.hid hw16
  have hk16 := bstep hk15 hb16 hk15.size
  have Wr_16 := Lib.hid ((Wr_15.out).below hb16)
  have BW_16 := Lib.hid ((BW_15.out).below_ hb16)
  have BG_16 := Lib.hid ((BG_15.out).below_ hb16)
  have Gr_16 := Lib.hid ((Gr_15.out).below hb16)
  have H_16 := Lib.hid ((H_15.out).below hb16)
  have I_16 := Lib.hid ((I_15.out).below hb16)
  have BI_16 := Lib.hid pk16
  clear hw16 hb16 pk16
  obtain ⟨x160, x161, x162, x163, x164, x165⟩ := (BI_16.out).cells
  have ly16 := (BW_15.out).lt
  obtain ⟨y160, y161, y162, y163, y164, y165⟩ := (BW_15.out).cells
  go_wp2_with fail
  rw [← WQ16.out]
  refine (same_eqPacket (d := D) HM.out.symm HM.out.symm hD2 (I_16.out).1 (Wr_16.out).1).mono ?_
  rintro e w17 ⟨rfl, hb17⟩
  have hk17 := bstep hk16 hb17 hk16.size
  have z17 : w16.heap.size ≤ w17.heap.size := hb17.size
  have Wr_17 := Lib.hid ((Wr_16.out).below hb17)
  have BW_17 := Lib.hid ((BW_16.out).below_ hb17)
  have BG_17 := Lib.hid ((BG_16.out).below_ hb17)
  have Gr_17 := Lib.hid ((Gr_16.out).below hb17)
  have H_17 := Lib.hid ((H_16.out).below hb17)
  have I_17 := Lib.hid ((I_16.out).below hb17)
  have BI_17 := Lib.hid ((BI_16.out).below_ hb17)
  clear x160 x161 x162 x163 x164 x165 y160 y161 y162 y163 y164 y165
  clear hb17
  obtain ⟨x170, x171, x172, x173, x174, x175⟩ := (BG_17.out).cells
  go_wp2_with fail
  refine (laws_heldPacket _ _ _ _ _ _ _ m 1 _ (by omega) (by omega) (by omega) Gr_17.out).mono ?_
  rintro e w18 ⟨rfl, hb18⟩
  have hk18 := bstep hk17 hb18 hk17.size
  have z18 : w17.heap.size ≤ w18.heap.size := hb18.size
  have Wr_18 := Lib.hid ((Wr_17.out).below hb18)
  have BW_18 := Lib.hid ((BW_17.out).below_ hb18)
  have BG_18 := Lib.hid ((BG_17.out).below_ hb18)
  have Gr_18 := Lib.hid ((Gr_17.out).below hb18)
  have H_18 := Lib.hid ((H_17.out).below hb18)
  have BI_18 := Lib.hid ((BI_17.out).below_ hb18)
  clear x170 x171 x172 x173 x174 x175
  clear hb18
  go_wp2
  go_ret
  exact ⟨rfl, hq.trans (hk18.mono hq.size)⟩
end Go.Proofs.Ytnkdhpbbiilekaa
