/- The walk of FnExactLetsIn. -/
import Derived.Test.YtafmalklgecomaaCl
import Derived.Test.YtafmalklgecomaaCm
namespace Go.Proofs.Ytafmalklgecomaa
open Go.RowKit
set_option maxHeartbeats 4000000 in
theorem FnExactLetsIn_walk (kind port fa fq : Int) (A : Option Addr) (c : Nat) (l : List Ct) (w : World) (hc : c ≤ maxLen) (hs : Sl encC 3 w A c l) :
    Calls Try.prog 4 #[.int .i64 kind, .slice A l.length c, .int .i64 port, .agg #[.int .i64 fa, .int .i64 fq]] w (Ret w (.bool true)) := by
  obtain ⟨wq, hwq⟩ : ∃ x, x = w.alloc (.cells #[.int .i64 fa, .int .i64 fq] 32) := ⟨_, rfl⟩
  have hq : Below w.heap.size w wq := by subst hwq; exact (Below.refl _ _).alloc (Nat.le_refl _) _
  have hwz : wq.heap.size = w.heap.size + 1 := by subst hwq; exact alloc_size _ _
  have hzz : w.heap.size < wq.heap.size := by omega
  have c0 : ∀ W, Below wq.heap.size wq W → W.cell? ⟨w.heap.size, 0, none⟩ = some (.int .i64 fa) := fun W h => bcell h hzz (by subst hwq; exact cell_of_row _ _ _ _ _ _ (heap_alloc_new _ _))
  have c1 : ∀ W, Below wq.heap.size wq W → W.cell? ⟨w.heap.size, 1, none⟩ = some (.int .i64 fq) := fun W h => bcell h hzz (by subst hwq; exact cell_of_row _ _ _ _ _ _ (heap_alloc_new _ _))
  have hlc := hs.1
  unfold maxLen at hc
  have WQ := Lib.hid hwq
  have SL := Lib.hid (fun W (h : Below wq.heap.size wq W) => hs.below (hq.trans (h.mono hq.size)))
  clear hwq hwz hs
  by_cases hbig : (1048576 : Int) - (l.length : Int) < 0
  · go_enter Try.func4, Try.ntmps4
    go_wp2_with (first | (go_at_call 20; rw [← WQ.out]; refine (laws_szContactS _ _ _ _ _ (by omega) (by omega) (by omega)).mono ?_; rintro e w' ⟨rfl, rfl⟩; rw [if_pos hbig]))
    go_ret
    exact ⟨rfl, hq⟩
  · have hl : l.length ≤ 2000000 := by omega
    have hnb : ¬ ((1048576 : Int) - (l.length : Int) < 0) := hbig
    have HNB := Lib.hid hnb
    have hpos : (0 : Int) ≤ 1048576 - (l.length : Int) := by omega
    clear hnb hbig
    go_enter Try.func4, Try.ntmps4
    go_wp2_with (first | (go_at_call 20; rw [← WQ.out]; refine (laws_szContactS _ _ _ _ _ (by omega) (by omega) (by omega)).mono ?_; rintro e w' ⟨rfl, rfl⟩; rw [if_neg HNB.out]))
    go_region_held3 (fun W => Below wq.heap.size wq W) (first | exact (Below.refl _ _).drew | assumption) (first | (go_at_call 22; refine (laws_toContactS _ _ _ _ hl (SL.out _ (by assumption))).mono ?_; rintro e w5 ⟨A1, c1, rfl, how1, hb5⟩; have hk5 := bstep (B := wq.heap.size) (a := wq) (by assumption) hb5 (Below.size (by assumption))) | (go_at_call 23; refine (laws_toEnd _ _ _).mono ?_; rintro e w6 ⟨rfl, hb6⟩; have hk6 := bstep hk5 hb6 hk5.size; have how2 := how1.below hb6) | (go_at_call 21; refine (spec_LetsIn _ _ _ _ _ _ _ _ hl how2.sl).mono ?_; rintro e w7 ⟨rfl, hb7⟩; have hk7 := bstep hk6 hb7 hk6.size))
    clear hb5 hb6 hb7 how1 how2 hk5 hk6
    go_wp2_with fail
    refine (laws_toContactS _ _ _ _ hl (SL.out _ hk7)).mono ?_
    rintro e w8 ⟨A2, c2, rfl, how8, hb8⟩
    have hk8 := bstep hk7 hb8 hk7.size
    go_wp2_with fail
    refine (laws_toEnd _ _ _).mono ?_
    rintro e w9 ⟨rfl, hb9⟩
    have hk9 := bstep hk8 hb9 hk8.size
    have ho9 := how8.below hb9
    go_wp2_with fail
    refine (impl_LetsIn _ _ _ _ _ _ _ _ hl ho9.sl).mono ?_
    rintro e wa ⟨rfl, hba⟩
    have hka := bstep hk9 hba hk9.size
    have hoa := ho9.below hba
    clear hb8 hb9 hba how8 ho9 hk8 hk9
    go_wp2_with fail
    refine (laws_toContactS _ _ _ _ hl (SL.out _ hka)).mono ?_
    rintro e wb ⟨A3, c3, rfl, hob3, hbb⟩
    have hkb := bstep hka hbb hka.size
    have hob := hoa.below hbb
    go_wp2_with fail
    refine (laws_eqContactS _ _ _ _ l l _ (by omega) (by omega) hob.sl hob3.sl).mono ?_
    rintro e wc ⟨rfl, hbc⟩
    rw [decide_eq_true rfl]
    go_wp2
    go_ret
    exact ⟨rfl, hq.trans ((bstep hkb hbc hkb.size).mono hq.size)⟩
end Go.Proofs.Ytafmalklgecomaa
