/- PackPacket, PacketCheck, UpdateCheck, IsRight, walked. -/
import Derived.Test.YtlgfmnognhojnaaKc
namespace Go.Proofs.Ytlgfmnognhojnaa
open Go.RowKit
theorem Bl.outI {e : TypeId} {w : World} {g c m B : Nat} {L : List Int} (h : Bl encI 1 e w g c L) (hB : B ≤ g) (hm : L.length = m) : Out encI 1 B w (some ⟨g, 0, none⟩) m L := by
  subst hm
  exact ⟨h.sl, fun _ => ⟨g, 0, rfl, hB, h.lt, fun j => h.frozen j⟩⟩
theorem words_at1 (x : Pk) (c : Int) : (wordsP x c)[1]? = some c := rfl
theorem words_ne (x : Pk) (c : Int) : wordsP x c ≠ [] := by unfold wordsP; simp
end Go.Proofs.Ytlgfmnognhojnaa
