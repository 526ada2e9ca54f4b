/- LetsIn: the program's and the reference's, walked; IndexFunc and ContainsFunc over contacts. -/
import Derived.Test.YtlgfmnognhojnaaCv
namespace Go.Proofs.Ytlgfmnognhojnaa
open Go.RowKit
/-- What a filter lets in by one contact. -/
def letP (kind port fa fq : Int) (x : Ct) : Bool := (x.p == port) && ((x.a == fa) && ((kind == 1) || (x.q == fq)))
def lets (kind : Int) (l : List Ct) (port fa fq : Int) : Bool := (kind == 0) || l.any (letP kind port fa fq)
def letsIn (kind : Int) (l : List Ct) (port fa fq : Int) : Bool := inR kind 0 2 && (vC l && lets kind l port fa fq)
set_option maxHeartbeats 1000000 in
theorem IndexFunc_ct (A : Option Addr) (c : Nat) (l : List Ct) (g : FuncId) (cb : Array Value) (f : Ct → Bool) (w : World) (hl : l.length ≤ 2000000) (hs : Sl encC 3 w A c l)
    (eg : ∀ args W, (callFunc g args).run Try.prog W = .ok (.enter g args) W) (hp : ∀ p a q W, Below w.heap.size w W → Calls Try.prog g (#[.agg #[.int .i64 p, .int .i64 a, .int .i64 q]] ++ cb) W (Ret W (.bool (f ⟨p, a, q⟩)))) :
    Calls Try.prog 84 #[.slice A l.length c, .func (.func g) #[] cb] w (Ret w (.int .i64 (idx f l))) := by
  have HP := Lib.hid hp
  clear hp
  go_enter Try.func84, Try.ntmps84
  go_wp2
  go_loopw [8] (fun i wr => ∃ k : Nat, k ≤ l.length ∧ i = .int .i64 k ∧ Below w.heap.size w wr ∧ ∀ y ∈ l.take k, f y = false) (fun i _ => l.length - (intOf i).toNat)
  case atStart => exact ⟨0, Nat.zero_le _, rfl, Below.refl _ _, by simp⟩
  case round =>
    obtain ⟨k, hk, rfl, hb, hn⟩ := hrel
    have HN := Lib.hid hn
    clear hn
    by_cases hlt : k < l.length
    · obtain ⟨b, o, rfl, hbs, hc⟩ := hs.base hlt
      obtain ⟨p, a, q, hx⟩ := ct_at hlt
      obtain ⟨d0, d1, d2⟩ := hc.ct hb hbs hx
      have X := Lib.hid hx
      clear hs hc hx
      have C := Lib.hid (HP.out p a q wr hb)
      cases he : f ⟨p, a, q⟩
      all_goals
        have HE := Lib.hid he
        clear he
        go_wp2_with fail
        refine (HE.out ▸ C.out).mono ?_
        rintro e w2 ⟨rfl, hb2⟩
        go_wp2
      · go_roundw
        case rel => exact ⟨k + 1, by omega, by go_num, bstep hb hb2 hb.size, none_step X.out HE.out HN.out⟩
        case measure => simp [intOf]; omega
      · go_ret
        exact ⟨by rw [idx_at X.out HE.out HN.out]; rfl, bstep hb hb2 hb.size⟩
    · go_wp2
      go_ret
      have := HN.out
      rw [List.take_of_length_le (by omega)] at this
      exact ⟨by rw [idx_not this]; rfl, hb⟩
theorem ContainsFunc_ct (A : Option Addr) (c : Nat) (l : List Ct) (g : FuncId) (cb : Array Value) (f : Ct → Bool) (w : World) (hl : l.length ≤ 2000000) (hs : Sl encC 3 w A c l)
    (eg : ∀ args W, (callFunc g args).run Try.prog W = .ok (.enter g args) W) (hp : ∀ p a q W, Below w.heap.size w W → Calls Try.prog g (#[.agg #[.int .i64 p, .int .i64 a, .int .i64 q]] ++ cb) W (Ret W (.bool (f ⟨p, a, q⟩)))) :
    Calls Try.prog 45 #[.slice A l.length c, .func (.func g) #[] cb] w (Ret w (.bool (l.any f))) := by
  have HP := Lib.hid hp
  have EG := Lib.hid eg
  have HI := Lib.hid (idx_nonneg f l)
  have HS := Lib.hid hs
  clear hp hs eg
  go_enter Try.func45, Try.ntmps45
  go_wp2_with (go_at_call 84; refine (IndexFunc_ct _ _ _ _ _ f _ hl HS.out EG.out HP.out).mono ?_; rintro e w2 ⟨rfl, hb2⟩)
  go_ret
  exact ⟨by rw [← HI.out]; rfl, hb2⟩
theorem eqlEn (a q a' q' : Int) (w : World) : (binOp .eql 62 (.agg #[.int .i64 a, .int .i64 q]) (.agg #[.int .i64 a', .int .i64 q'])).run Try.prog w = .ok (.bool ((a == a') && (q == q'))) w := by
  have u3 := Try.underlying3
  have a3 := Try.isAgg3
  have z3 := Try.sizeOf3
  have hS : Try.prog.underlying 62 = some (.struct (Try.prog.fieldsOf 62)) := by kernel_rfl
  have hp : Try.prog.stoodInHeld 62 = false := by kernel_rfl
  rw [run_eql_struct, show (10000 : Nat) = 9999 + 1 from rfl, run_equalIn_agg w 9999 62 _ _ hS hp]
  simp only [Program.fieldsOf, Try.underlying62]
  go_simp
  by_cases h1 : a = a' <;> by_cases h2 : q = q' <;> simp [h1, h2]
end Go.Proofs.Ytlgfmnognhojnaa
