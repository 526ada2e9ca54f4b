/- UnpackPacket's contracts in literal form. -/
import Derived.Test.YtnkdhpbbiilekaaKs
namespace Go.Proofs.Ytnkdhpbbiilekaa
open Go.RowKit
theorem impl_UP0 {A : Option Addr} {c n : Nat} {l : List Int} {w : World} (ho : unpackO l = false) (hn : n = l.length) (hl : l.length ≤ 2000000) (hcm : c ≤ 9223372036854775807) (hs : Sl encI 1 w A c l) :
    Calls Try.prog 35 #[.slice A n c] w (Ret w (.tuple #[.agg #[.int .i64 0, .int .i64 0, .int .i64 0, .int .i64 0, .int .i64 0, .slice none 0 0], .bool false])) := by
  by_cases h6 : l.length < 6
  · exact impl_UnpackPacket_short A c n l w hn hl hcm hs (h6)
  refine (impl_UnpackPacket_long A c n l w hn hl hcm hs (by omega)).mono ?_
  rintro e w' ⟨h | ⟨h, _⟩, hb⟩
  · exact ⟨h.2, hb⟩
  · rw [ho] at h; cases h
theorem impl_UP1 {A : Option Addr} {c n m : Nat} {l : List Int} {w : World} {k fa fp ta tp : Int} {d : List Int} (ho : unpackO l = true) (hx : unpackP l = ⟨k, fa, fp, ta, tp, d⟩) (hm : d.length = m) (hn : n = l.length) (hl : l.length ≤ 2000000) (hcm : c ≤ 9223372036854775807) (hs : Sl encI 1 w A c l) :
    Calls Try.prog 35 #[.slice A n c] w (fun e w' => ∃ A' c', e = .returned (.tuple #[.agg #[.int .i64 k, .int .i64 fa, .int .i64 fp, .int .i64 ta, .int .i64 tp, .slice A' m c'], .bool true]) ∧ Out encI 1 w.heap.size w' A' c' d ∧ Below w.heap.size w w') := by
  have h6 : ¬ l.length < 6 := fun h => by rw [unpack_short h] at ho; cases ho
  have h18 : ¬ 18 < l.length := fun h => by rw [unpack_long h] at ho; cases ho
  refine (impl_UnpackPacket_long A c n l w hn hl hcm hs (by omega)).mono ?_
  rintro e w' ⟨h | ⟨_, A', c', h, hout⟩, hb⟩
  · rw [ho] at h; cases h.1
  · rw [hx] at h hout
    subst hm
    exact ⟨A', c', h, hout, hb⟩
theorem spec_UP0 {A : Option Addr} {c n : Nat} {l : List Int} {w : World} (ho : unpackO l = false) (hn : n = l.length) (hl : l.length ≤ 2000000) (hcm : c ≤ 9223372036854775807) (hs : Sl encI 1 w A c l) :
    Calls Try.prog 37 #[.slice A n c] w (Ret w (.tuple #[.agg #[.int .i64 0, .int .i64 0, .int .i64 0, .int .i64 0, .int .i64 0, .slice none 0 0], .bool false])) := by
  by_cases h6 : l.length < 6
  · exact spec_UnpackPacket_short A c n l w hn hl hcm hs (.inl h6)
  by_cases h18 : 18 < l.length
  · exact spec_UnpackPacket_short A c n l w hn hl hcm hs (.inr h18)
  refine (spec_UnpackPacket_long A c n l w hn hl hcm hs (by omega) (by omega)).mono ?_
  rintro e w' ⟨h | ⟨h, _⟩, hb⟩
  · exact ⟨h.2, hb⟩
  · rw [ho] at h; cases h
theorem spec_UP1 {A : Option Addr} {c n m : Nat} {l : List Int} {w : World} {k fa fp ta tp : Int} {d : List Int} (ho : unpackO l = true) (hx : unpackP l = ⟨k, fa, fp, ta, tp, d⟩) (hm : d.length = m) (hn : n = l.length) (hl : l.length ≤ 2000000) (hcm : c ≤ 9223372036854775807) (hs : Sl encI 1 w A c l) :
    Calls Try.prog 37 #[.slice A n c] w (fun e w' => ∃ A' c', e = .returned (.tuple #[.agg #[.int .i64 k, .int .i64 fa, .int .i64 fp, .int .i64 ta, .int .i64 tp, .slice A' m c'], .bool true]) ∧ Out encI 1 w.heap.size w' A' c' d ∧ Below w.heap.size w w') := by
  have h6 : ¬ l.length < 6 := fun h => by rw [unpack_short h] at ho; cases ho
  have h18 : ¬ 18 < l.length := fun h => by rw [unpack_long h] at ho; cases ho
  refine (spec_UnpackPacket_long A c n l w hn hl hcm hs (by omega) (by omega)).mono ?_
  rintro e w' ⟨h | ⟨_, A', c', h, hout⟩, hb⟩
  · rw [ho] at h; cases h.1
  · rw [hx] at h hout
    subst hm
    exact ⟨A', c', h, hout, hb⟩
end Go.Proofs.Ytnkdhpbbiilekaa
