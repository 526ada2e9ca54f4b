/- Contracts on packets in literal form, for the statements' walks. -/
import Derived.Test.YtnkdhpbbiilekaaKh
import Derived.Test.YtnkdhpbbiilekaaTz
namespace Go.Proofs.Ytnkdhpbbiilekaa
open Go.RowKit
section
variable {k fa fp ta tp c o n v : Int} {d : List Int} {A : Option Addr} {cp m : Nat} {w : World}
theorem impl_PC (hv : checkV ⟨k, fa, fp, ta, tp, d⟩ = v) (hn : m = d.length) (hl : d.length ≤ 2000000) (hs : Sl encI 1 w A cp d) :
    Calls Try.prog 20 #[.agg #[.int .i64 k, .int .i64 fa, .int .i64 fp, .int .i64 ta, .int .i64 tp, .slice A m cp]] w (Ret w (.int .i64 v)) := by
  subst hv
  exact impl_PacketCheck k fa fp ta tp d A cp m w hn hl hs
theorem spec_PC (hv : checkV ⟨k, fa, fp, ta, tp, d⟩ = v) (hn : m = d.length) (hl : d.length ≤ 2000000) (hs : Sl encI 1 w A cp d) :
    Calls Try.prog 22 #[.agg #[.int .i64 k, .int .i64 fa, .int .i64 fp, .int .i64 ta, .int .i64 tp, .slice A m cp]] w (Ret w (.int .i64 v)) := by
  subst hv
  exact spec_PacketCheck k fa fp ta tp d A cp m w hn hl hs
theorem impl_UC (hv : updV c o n = v) : Calls Try.prog 31 #[.int .i64 c, .int .i64 o, .int .i64 n] w (Ret w (.int .i64 v)) := by
  subst hv
  exact impl_UpdateCheck c o n w
end
end Go.Proofs.Ytnkdhpbbiilekaa
