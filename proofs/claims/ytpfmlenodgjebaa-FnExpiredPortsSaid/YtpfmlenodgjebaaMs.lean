/- MapEnd, TouchPort: contracts in literal form. -/
import Derived.Test.YtpfmlenodgjebaaMr
namespace Go.Proofs.Ytpfmlenodgjebaa
open Go.RowKit
section
variable {A : Option Addr} {c n m : Nat} {l L : List Mp} {w : World} {r : Bool} {a q now v port : Int}
theorem impl_ME (hR : mapV l a q now = (L, v, r)) (hm : L.length = m) (hn : n = l.length) (hl : l.length ≤ 2000000) (hs : Sl encM 4 w A c l) :
    Calls Try.prog 27 #[.slice A n c, .agg #[.int .i64 a, .int .i64 q], .int .i64 now] w (fun e w' => ∃ A', e = .returned (.tuple #[.slice A' m m, .int .i64 v, .bool r]) ∧ Out encM 4 w.heap.size w' A' m L ∧ Below w.heap.size w w') := by
  subst hm
  have := impl_MapEnd A c n l a q now w hn hl hs
  rw [hR] at this
  exact this
theorem spec_ME (hR : mapV l a q now = (L, v, r)) (hm : L.length = m) (hn : n = l.length) (hl : l.length ≤ 2000000) (hs : Sl encM 4 w A c l) :
    Calls Try.prog 29 #[.slice A n c, .agg #[.int .i64 a, .int .i64 q], .int .i64 now] w (fun e w' => ∃ A' c', e = .returned (.tuple #[.slice A' m c', .int .i64 v, .bool r]) ∧ Ow encM 4 37 w.heap.size w' A' c' L ∧ Below w.heap.size w w') := by
  subst hm
  have := spec_MapEnd A c n l a q now w hn hl hs
  rw [hR] at this
  exact this
theorem impl_TP (hR : touchV l port now = L) (ho : touchO l port now = r) (hm : L.length = m) (hn : n = l.length) (hl : l.length ≤ 2000000) (hs : Sl encM 4 w A c l) :
    Calls Try.prog 32 #[.slice A n c, .int .i64 port, .int .i64 now] w (fun e w' => ∃ A', e = .returned (.tuple #[.slice A' m m, .bool r]) ∧ Out encM 4 w.heap.size w' A' m L ∧ Below w.heap.size w w') := by
  subst hm
  subst hR
  subst ho
  exact impl_TouchPort A c n l port now w hn hl hs
end
theorem map_fit {l L : List Mp} {a q now v : Int} {r : Bool} (h : mapV l a q now = (L, v, r)) (hl : l.length ≤ 10) : L.length ≤ 11 := by
  have := mapV_len l a q now
  rw [h] at this
  simp only at this
  omega
end Go.Proofs.Ytpfmlenodgjebaa
