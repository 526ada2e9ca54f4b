/- Equal gates. -/
import Derived.Test.YtlgfmnognhojnaaGe
namespace Go.Proofs.Ytlgfmnognhojnaa
open Go.RowKit
theorem eqlNt (a q : Int) (w : World) : (binOp .eql 24 (.agg #[.int .i64 a, .int .i64 q]) (.agg #[.int .i64 a, .int .i64 q])).run Try.prog w = .ok (.bool true) w := by
  have u3 := Try.underlying3
  have a3 := Try.isAgg3
  have z3 := Try.sizeOf3
  have hS : Try.prog.underlying 24 = some (.struct (Try.prog.fieldsOf 24)) := by kernel_rfl
  have hp : Try.prog.stoodInHeld 24 = false := by kernel_rfl
  rw [run_eql_struct, show (10000 : Nat) = 9999 + 1 from rfl, run_equalIn_agg w 9999 24 _ _ hS hp]
  simp only [Program.fieldsOf, Try.underlying24]
  go_simp
set_option maxRecDepth 4000 in
set_option maxHeartbeats 4000000 in
theorem same_gates {b n o f h t : Int} {T : List Mp} {C : List Ct} {At Ac At' Ac' : Option Addr} {ct cc nt nc ct' cc' nt' nc' : Nat} {w : World} (hnt : nt = T.length) (hnc : nc = C.length) (hnt' : nt' = T.length) (hnc' : nc' = C.length) (hlT : T.length ≤ 2000000) (hlC : C.length ≤ 2000000) (hT : Sl encM 4 w At ct T) (hC : Sl encC 3 w Ac cc C) (hT' : Sl encM 4 w At' ct' T) (hC' : Sl encC 3 w Ac' cc' C) :
    Calls Try.prog 11 #[.agg #[.int .i64 b, .int .i64 n, .int .i64 o, .slice At nt ct, .slice Ac nc cc, .int .i64 f, .int .i64 h, .int .i64 t], .agg #[.int .i64 b, .int .i64 n, .int .i64 o, .slice At' nt' ct', .slice Ac' nc' cc', .int .i64 f, .int .i64 h, .int .i64 t]] w (Ret w (.bool true)) := by
  obtain ⟨wq, hwq⟩ : ∃ y, y = (w.alloc (.cells #[.int .i64 b, .int .i64 n, .int .i64 o, .slice At nt ct, .slice Ac nc cc, .int .i64 f, .int .i64 h, .int .i64 t] 28)).alloc (.cells #[.int .i64 b, .int .i64 n, .int .i64 o, .slice At' nt' ct', .slice Ac' nc' cc', .int .i64 f, .int .i64 h, .int .i64 t] 28) := ⟨_, rfl⟩
  have hq : Below w.heap.size w wq := by subst hwq; exact ((Below.refl _ _).alloc (Nat.le_refl _) _).alloc (by simp) _
  have hzq : wq.heap.size = w.heap.size + 1 + 1 := by subst hwq; simp
  have bg : BlAt wq w.heap.size #[.int .i64 b, .int .i64 n, .int .i64 o, .slice At nt ct, .slice Ac nc cc, .int .i64 f, .int .i64 h, .int .i64 t] := by subst hwq; exact (BlAt.new _ _ _).alloc _
  have bz : BlAt wq (w.heap.size + 1) #[.int .i64 b, .int .i64 n, .int .i64 o, .slice At' nt' ct', .slice Ac' nc' cc', .int .i64 f, .int .i64 h, .int .i64 t] := by
    subst hwq
    have := BlAt.new (w.alloc (.cells #[.int .i64 b, .int .i64 n, .int .i64 o, .slice At nt ct, .slice Ac nc cc, .int .i64 f, .int .i64 h, .int .i64 t] 28)) 28 #[.int .i64 b, .int .i64 n, .int .i64 o, .slice At' nt' ct', .slice Ac' nc' cc', .int .i64 f, .int .i64 h, .int .i64 t]
    rw [alloc_size] at this
    exact this
  have BG := Lib.hid (fun W (h : Below wq.heap.size wq W) => bg.below h (by omega))
  have BZ := Lib.hid (fun W (h : Below wq.heap.size wq W) => bz.below h (by omega))
  have ST := Lib.hid (fun W (h : Below wq.heap.size wq W) => hT.below (hq.trans (h.mono hq.size)))
  have SC := Lib.hid (fun W (h : Below wq.heap.size wq W) => hC.below (hq.trans (h.mono hq.size)))
  have ST' := Lib.hid (fun W (h : Below wq.heap.size wq W) => hT'.below (hq.trans (h.mono hq.size)))
  have SC' := Lib.hid (fun W (h : Below wq.heap.size wq W) => hC'.below (hq.trans (h.mono hq.size)))
  have H1 := Lib.hid hnt
  have H2 := Lib.hid hnc
  have H3 := Lib.hid hnt'
  have H4 := Lib.hid hnc'
  have WQ := Lib.hid hwq
  have hk0 : Below wq.heap.size wq wq := Below.refl _ _
  have E1 := eqlNt b n
  clear hwq hT hC hT' hC' bg bz hzq hnt hnc hnt' hnc'
  go_enter Try.func11, Try.ntmps11
  go_wp2_with fail
  rw [← WQ.out]
  refine (eqTbs (l := T) (l' := T) (r := true) (decide_eq_true rfl) H1.out H3.out hlT hlT (ST.out _ hk0) (ST'.out _ hk0)).mono ?_
  rintro e w2 ⟨rfl, hb2⟩
  obtain ⟨x0, x1, x2, x3, x4, x5, x6, x7⟩ := gcells (BG.out w2 hb2)
  obtain ⟨y0, y1, y2, y3, y4, y5, y6, y7⟩ := gcells (BZ.out w2 hb2)
  go_wp2_with fail
  refine (eqCts (l := C) (l' := C) (r := true) (decide_eq_true rfl) H2.out H4.out hlC hlC (SC.out _ hb2) (SC'.out _ hb2)).mono ?_
  rintro e w3 ⟨rfl, hb3⟩
  have hk3 := bstep hb2 hb3 hb2.size
  clear x0 x1 x2 x3 x4 x5 x6 x7 y0 y1 y2 y3 y4 y5 y6 y7
  obtain ⟨x0, x1, x2, x3, x4, x5, x6, x7⟩ := gcells (BG.out w3 hk3)
  obtain ⟨y0, y1, y2, y3, y4, y5, y6, y7⟩ := gcells (BZ.out w3 hk3)
  go_wp2
  go_ret
  exact ⟨by simp, hq.trans (hk3.mono hq.size)⟩
end Go.Proofs.Ytlgfmnognhojnaa
