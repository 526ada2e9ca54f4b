/- ExpiredPorts, NextExpiry, TouchPort: the program's and the reference's, walked. -/
import Derived.Test.YtnkdhpbbiilekaaTa
namespace Go.Proofs.Ytnkdhpbbiilekaa
open Go.RowKit
theorem elI : ElT Try.prog 25 3 encI 1 8 0 where
  ht := Try.underlying25
  hi := by
    obtain ⟨i, h1, h2, h3, h4⟩ := info_parts (P := Try.prog) (e := 3) (z := .int .i64 0) (size := 1) (bytes := 8) (by kernel_rfl)
    exact ⟨i, _, h1, h2, rfl, h3, h4⟩
  hk := fun _ => rfl
  h1 := fun x u hu => by simp [encI] at hu; subst hu; rfl
  k0 := by decide
theorem blI (w : World) (x : Int) : Bl encI 1 3 (w.alloc (.cells #[.int .i64 x] 3)) w.heap.size 1 [x] := Bl.one (enc := encI) (k := 1) (fun _ => rfl) w _ rfl
theorem Clip_in (A : Option Addr) (c n : Nat) (w : World) (hn : n ≤ c) (hc : c ≤ maxLen) :
    Calls Try.prog 48 #[.slice A n c] w (Same w (.slice A n n)) := by
  unfold maxLen at hc
  go_enter Try.func48, Try.ntmps48
  go_wp2
  go_ret
  exact ⟨rfl, rfl⟩
end Go.Proofs.Ytnkdhpbbiilekaa
