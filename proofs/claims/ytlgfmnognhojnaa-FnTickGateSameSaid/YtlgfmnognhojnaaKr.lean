/- Copies of packets, ReversePacket, equal packets, walked. -/
import Derived.Test.YtlgfmnognhojnaaKk
namespace Go.Proofs.Ytlgfmnognhojnaa
open Go.RowKit
theorem out_far {B c b : Nat} {w : World} {A : Option Addr} {l : List Int} (h : Out encI 1 B w A c l) (hb : b < B) (j : Nat) (u : Value) : Out encI 1 B (w.setCell ⟨b, j, none⟩ u) A c l :=
  h.grown (grown_setCell (row := some b) (World.grownBy.refl _ _) (.inl rfl) u) (fun q hq => by injection hq with hq; omega)
theorem out_six {B c b : Nat} {w : World} {A : Option Addr} {l : List Int} (h : Out encI 1 B w A c l) (hb : b < B) (u0 u1 u2 u3 u4 u5 : Value) :
    Out encI 1 B ((((((w.setCell ⟨b, 0, none⟩ u0).setCell ⟨b, 1, none⟩ u1).setCell ⟨b, 2, none⟩ u2).setCell ⟨b, 3, none⟩ u3).setCell ⟨b, 4, none⟩ u4).setCell ⟨b, 5, none⟩ u5) A c l :=
  out_far (out_far (out_far (out_far (out_far (out_far h hb 0 u0) hb 1 u1) hb 2 u2) hb 3 u3) hb 4 u4) hb 5 u5
set_option maxHeartbeats 1000000 in
theorem spec_copyPacket (k fa fp ta tp : Int) (d : List Int) (A : Option Addr) (c n : Nat) (w : World) (hn : n = d.length) (hl : d.length ≤ 2000000) (hs : Sl encI 1 w A c d) :
    Calls Try.prog 106 #[.agg #[.int .i64 k, .int .i64 fa, .int .i64 fp, .int .i64 ta, .int .i64 tp, .slice A n c]] w (fun e w' => ∃ A' c', e = .returned (.agg #[.int .i64 k, .int .i64 fa, .int .i64 fp, .int .i64 ta, .int .i64 tp, .slice A' n c']) ∧ Ow encI 1 3 w.heap.size w' A' c' d ∧ Below w.heap.size w w') := by
  subst hn
  obtain ⟨wq, hwq⟩ : ∃ y, y = (w.alloc (.cells #[.int .i64 k, .int .i64 fa, .int .i64 fp, .int .i64 ta, .int .i64 tp, .slice A d.length c] 110)).alloc (.cells #[.int .i64 0, .int .i64 0, .int .i64 0, .int .i64 0, .int .i64 0, .slice none 0 0] 110) := ⟨_, rfl⟩
  have hq : Below w.heap.size w wq := by subst hwq; exact ((Below.refl _ _).alloc (Nat.le_refl _) _).alloc (by simp) _
  have hzq : wq.heap.size = w.heap.size + 1 + 1 := by subst hwq; simp
  have bx : PkAt wq w.heap.size k fa fp ta tp (.slice A d.length c) := by subst hwq; exact (PkAt.new _ _ _ _ _ _ _ _).alloc _
  have bz : PkAt wq (w.heap.size + 1) 0 0 0 0 0 (.slice none 0 0) := by
    subst hwq
    have := PkAt.new (w.alloc (.cells #[.int .i64 k, .int .i64 fa, .int .i64 fp, .int .i64 ta, .int .i64 tp, .slice A d.length c] 110)) 110 0 0 0 0 0 (.slice none 0 0)
    rw [alloc_size] at this
    exact this
  have BX := Lib.hid (fun W (h : Below wq.heap.size wq W) => bx.below h (by omega))
  have BZ := Lib.hid (fun W (h : Below wq.heap.size wq W) => bz.below h (by omega))
  have SL := Lib.hid (fun W (h : Below wq.heap.size wq W) => hs.below (hq.trans (h.mono hq.size)))
  have HZ := Lib.hid hzq
  have WQ := Lib.hid hwq
  have hk : Below wq.heap.size wq wq := Below.refl _ _
  clear hwq hs bx bz hzq
  go_enter Try.func106, Try.ntmps106
  go_wp2_with fail
  rw [← WQ.out]
  refine (spec_copyInts _ _ _ d _ rfl hl (SL.out _ hk)).mono ?_
  rintro e w2 ⟨A2, c2, rfl, ho2, hb2⟩
  have b2 := BX.out w2 hb2
  have cz := BZ.out w2 hb2
  obtain ⟨x0, x1, x2, x3, x4, x5⟩ := b2.cells
  have q5 := b2.free 5
  obtain ⟨z0, z1, z2, z3, z4, z5⟩ := cz.cells
  obtain ⟨f0, f1, f2, f3, f4, f5⟩ := cz.frees
  have hz := HZ.out
  have hs1 : w.heap.size < wq.heap.size := by omega
  have hs2 : w.heap.size + 1 < wq.heap.size := by omega
  have O2 := Lib.hid ho2
  clear b2 cz ho2 hz
  go_wp2
  refine bodyPost_ret (v := .agg #[.int .i64 k, .int .i64 fa, .int .i64 fp, .int .i64 ta, .int .i64 tp, .slice A2 d.length c2]) (by simp [results, Try.results106, go_sem, z0, z1, z2, z3, z4, z5]) rfl ⟨A2, c2, rfl, ?_, ?_⟩
  · exact (ow_six (ow_one O2.out (fun e => by have := (O2.out.blk _ e).1; omega) _ _) (fun e => by have := (O2.out.blk _ e).1; omega) _ _ _ _ _ _).base hq.size
  · exact below_six ((hq.trans (hb2.mono hq.size)).setCell (Nat.le_refl _) _) (Nat.le_succ _) _ _ _ _ _ _
end Go.Proofs.Ytlgfmnognhojnaa
