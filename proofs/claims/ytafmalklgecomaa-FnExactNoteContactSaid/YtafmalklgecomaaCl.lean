/- LetsIn: the program's and the reference's, walked; IndexFunc and ContainsFunc over contacts. -/
import Derived.Test.YtafmalklgecomaaCv
namespace Go.Proofs.Ytafmalklgecomaa
open Go.RowKit
/-- What a filter lets in by one contact. -/
def letP (kind port fa fq : Int) (x : Ct) : Bool := (x.p == port) && ((x.a == fa) && ((kind == 1) || (x.q == fq)))
def lets (kind : Int) (l : List Ct) (port fa fq : Int) : Bool := (kind == 0) || l.any (letP kind port fa fq)
def letsIn (kind : Int) (l : List Ct) (port fa fq : Int) : Bool := inR kind 0 2 && (vC l && lets kind l port fa fq)
set_option maxHeartbeats 1000000 in
theorem IndexFunc_ct (A : Option Addr) (c : Nat) (l : List Ct) (g : FuncId) (cb : Array Value) (f : Ct → Bool) (w : World) (hl : l.length ≤ 2000000) (hs : Sl encC 3 w A c l)
    (eg : ∀ args W, (callFunc g args).run Try.prog W = .ok (.enter g args) W) (hp : ∀ p a q W, Below w.heap.size w W → Calls Try.prog g (#[.agg #[.int .i64 p, .int .i64 a, .int .i64 q]] ++ cb) W (Ret W (.bool (f ⟨p, a, q⟩)))) :
    Calls Try.prog 61 #[.slice A l.length c, .func (.func g) #[] cb] w (Ret w (.int .i64 (idx f l))) := by
  have HP := Lib.hid hp
  clear hp
  go_enter Try.func61, Try.ntmps61
  go_wp2
  go_loopw [8] (fun i wr => ∃ k : Nat, k ≤ l.length ∧ i = .int .i64 k ∧ Below w.heap.size w wr ∧ ∀ y ∈ l.take k, f y = false) (fun i _ => l.length - (intOf i).toNat)
  case atStart => exact ⟨0, Nat.zero_le _, rfl, Below.refl _ _, by simp⟩
  case round =>
    obtain ⟨k, hk, rfl, hb, hn⟩ := hrel
    have HN := Lib.hid hn
    clear hn
    by_cases hlt : k < l.length
    · obtain ⟨b, o, rfl, hbs, hc⟩ := hs.base hlt
      obtain ⟨p, a, q, hx⟩ := ct_at hlt
      obtain ⟨d0, d1, d2⟩ := hc.ct hb hbs hx
      have X := Lib.hid hx
      clear hs hc hx
      have C := Lib.hid (HP.out p a q wr hb)
      cases he : f ⟨p, a, q⟩
      all_goals
        have HE := Lib.hid he
        clear he
        go_wp2_with fail
        refine (HE.out ▸ C.out).mono ?_
        rintro e w2 ⟨rfl, hb2⟩
        go_wp2
      · go_roundw
        case rel => exact ⟨k + 1, by omega, by go_num, bstep hb hb2 hb.size, none_step X.out HE.out HN.out⟩
        case measure => simp [intOf]; omega
      · go_ret
        exact ⟨by rw [idx_at X.out HE.out HN.out]; rfl, bstep hb hb2 hb.size⟩
    · go_wp2
      go_ret
      have := HN.out
      rw [List.take_of_length_le (by omega)] at this
      exact ⟨by rw [idx_not this]; rfl, hb⟩
theorem ContainsFunc_ct (A : Option Addr) (c : Nat) (l : List Ct) (g : FuncId) (cb : Array Value) (f : Ct → Bool) (w : World) (hl : l.length ≤ 2000000) (hs : Sl encC 3 w A c l)
    (eg : ∀ args W, (callFunc g args).run Try.prog W = .ok (.enter g args) W) (hp : ∀ p a q W, Below w.heap.size w W → Calls Try.prog g (#[.agg #[.int .i64 p, .int .i64 a, .int .i64 q]] ++ cb) W (Ret W (.bool (f ⟨p, a, q⟩)))) :
    Calls Try.prog 45 #[.slice A l.length c, .func (.func g) #[] cb] w (Ret w (.bool (l.any f))) := by
  have HP := Lib.hid hp
  have EG := Lib.hid eg
  have HI := Lib.hid (idx_nonneg f l)
  have HS := Lib.hid hs
  clear hp hs eg
  go_enter Try.func45, Try.ntmps45
  go_wp2_with (go_at_call 61; refine (IndexFunc_ct _ _ _ _ _ f _ hl HS.out EG.out HP.out).mono ?_; rintro e w2 ⟨rfl, hb2⟩)
  go_ret
  exact ⟨by rw [← HI.out]; rfl, hb2⟩
set_option maxHeartbeats 2000000 in
theorem spec_lets (kind port fa fq : Int) (A : Option Addr) (c : Nat) (l : List Ct) (w : World) (hl : l.length ≤ 2000000) (hs : Sl encC 3 w A c l) :
    Calls Try.prog 43 #[.int .i64 kind, .slice A l.length c, .int .i64 port, .agg #[.int .i64 fa, .int .i64 fq]] w (Ret w (.bool (lets kind l port fa fq))) := by
  cases h0 : (kind == 0)
  · have H0 := Lib.hid h0
    go_enter Try.func43, Try.ntmps43
    go_wp2
    go_loopw [9] (fun i wr => ∃ k : Nat, k ≤ l.length ∧ i = .int .i64 k ∧ Below (w.heap.size + 1) (w.alloc (.cells #[.int .i64 fa, .int .i64 fq] 27)) wr ∧ ∀ y ∈ l.take k, letP kind port fa fq y = false) (fun i _ => l.length - (intOf i).toNat)
    case atStart => exact ⟨0, Nat.zero_le _, rfl, Below.refl _ _, by simp⟩
    case round =>
      obtain ⟨k, hk, rfl, hb, hn⟩ := hrel
      have HN := Lib.hid hn
      clear hn
      have hb0 : Below w.heap.size w wr := ((Below.refl _ _).alloc (Nat.le_refl _) _).trans (hb.mono (by omega))
      have hz : w.heap.size < wr.heap.size := by have := hb.size; simp at this; omega
      have b0 : wr.cell? ⟨w.heap.size, 0, none⟩ = some (.int .i64 fa) := bcell hb (by simp) (cell_of_row _ _ _ _ _ _ (heap_alloc_new w _))
      have b1 : wr.cell? ⟨w.heap.size, 1, none⟩ = some (.int .i64 fq) := bcell hb (by simp) (cell_of_row _ _ _ _ _ _ (heap_alloc_new w _))
      by_cases hlt : k < l.length
      · obtain ⟨b, o, rfl, hbs, hc⟩ := hs.base hlt
        obtain ⟨p, a, q, hx⟩ := ct_at hlt
        obtain ⟨d0, d1, d2⟩ := hc.ct hb0 hbs hx
        have X := Lib.hid hx
        clear hs hc hx
        have hb' := hb.alloc (B := w.heap.size + 1) (by omega) (.cells #[.int .i64 p, .int .i64 a, .int .i64 q] 29)
        have hb0' := hb0.alloc (by omega) (.cells #[.int .i64 p, .int .i64 a, .int .i64 q] 29)
        cases h1 : (p == port)
        · have H1 := Lib.hid h1
          go_wp2
          go_roundw
          case rel => exact ⟨k + 1, by omega, by go_num, hb', none_step X.out (by simp only [letP, H1.out]; rfl) HN.out⟩
          case measure => simp [intOf]; omega
        cases h2 : (a == fa)
        · have H2 := Lib.hid h2
          go_wp2
          go_roundw
          case rel => exact ⟨k + 1, by omega, by go_num, hb', none_step X.out (by simp only [letP, H2.out]; simp) HN.out⟩
          case measure => simp [intOf]; omega
        cases h3 : (kind == 1)
        · cases h4 : (q == fq)
          · have H3 := Lib.hid h3
            have H4 := Lib.hid h4
            go_wp2
            go_roundw
            case rel => exact ⟨k + 1, by omega, by go_num, hb', none_step X.out (by simp only [letP, H3.out, H4.out]; simp) HN.out⟩
            case measure => simp [intOf]; omega
          · have H1 := Lib.hid h1
            have H2 := Lib.hid h2
            have H4 := Lib.hid h4
            go_wp2
            go_ret
            have : l.any (letP kind port fa fq) = true := List.any_eq_true.2 ⟨_, List.mem_of_getElem? X.out, by simp only [letP, H1.out, H2.out, H4.out]; simp⟩
            exact ⟨by unfold lets; rw [this]; simp, hb0'⟩
        · have H1 := Lib.hid h1
          have H2 := Lib.hid h2
          have H3 := Lib.hid h3
          go_wp2
          go_ret
          have : l.any (letP kind port fa fq) = true := List.any_eq_true.2 ⟨_, List.mem_of_getElem? X.out, by simp only [letP, H1.out, H2.out, H3.out]; simp⟩
          exact ⟨by unfold lets; rw [this]; simp, hb0'⟩
      · go_wp2
        go_ret
        have hn := HN.out
        rw [List.take_of_length_le (by omega)] at hn
        have : l.any (letP kind port fa fq) = false := by rw [List.any_eq_false]; intro y hy; rw [hn y hy]; simp
        exact ⟨by unfold lets; rw [this, H0.out]; rfl, hb0⟩
  · have H0 := Lib.hid h0
    go_enter Try.func43, Try.ntmps43
    go_wp2
    go_ret
    exact ⟨by unfold lets; rw [H0.out]; rfl, (Below.refl _ _).alloc (Nat.le_refl _) _⟩
set_option maxHeartbeats 1000000 in
theorem spec_LetsIn (kind port fa fq : Int) (A : Option Addr) (c : Nat) (l : List Ct) (w : World) (hl : l.length ≤ 2000000) (hs : Sl encC 3 w A c l) :
    Calls Try.prog 21 #[.int .i64 kind, .slice A l.length c, .int .i64 port, .agg #[.int .i64 fa, .int .i64 fq]] w (Ret w (.bool (letsIn kind l port fa fq))) := by
  have hba : Below w.heap.size w (w.alloc (.cells #[.int .i64 fa, .int .i64 fq] 27)) := (Below.refl _ _).alloc (Nat.le_refl _) _
  have HB := Lib.hid hba
  have HS := Lib.hid hs
  have HS1 := Lib.hid (hs.below hba)
  clear hba hs
  cases h1 : inR kind 0 2
  · have H1 := Lib.hid h1
    clear h1
    go_enter Try.func21, Try.ntmps21
    go_wp2_with (first | (go_at_call 42; refine (spec_inRange _ _ _ _).mono ?_; rintro e w' ⟨rfl, rfl⟩; rw [H1.out]))
    go_ret
    exact ⟨by unfold letsIn; rw [H1.out]; rfl, HB.out⟩
  cases h2 : vC l
  · have H1 := Lib.hid h1
    have H2 := Lib.hid h2
    clear h1 h2
    go_enter Try.func21, Try.ntmps21
    go_wp2_with (first | (go_at_call 42; refine (spec_inRange _ _ _ _).mono ?_; rintro e w' ⟨rfl, rfl⟩; rw [H1.out]) | (go_at_call 41; refine (spec_validContacts _ _ _ _ hl HS1.out).mono ?_; rintro e w2 ⟨rfl, hb2⟩; rw [H2.out]))
    go_ret
    exact ⟨by unfold letsIn; rw [H1.out, H2.out]; rfl, bstep HB.out hb2 (by simp)⟩
  · have H1 := Lib.hid h1
    have H2 := Lib.hid h2
    clear h1 h2
    go_enter Try.func21, Try.ntmps21
    go_wp2_with (first | (go_at_call 42; refine (spec_inRange _ _ _ _).mono ?_; rintro e w' ⟨rfl, rfl⟩; rw [H1.out]) | (go_at_call 41; refine (spec_validContacts _ _ _ _ hl HS1.out).mono ?_; rintro e w2 ⟨rfl, hb2⟩; rw [H2.out]; have hbx := bstep HB.out hb2 (by simp); have c0 : w2.cell? ⟨w.heap.size, 0, none⟩ = some (.int .i64 fa) := bcell hb2 (by simp) (cell_of_row _ _ _ _ _ _ (heap_alloc_new w _)); have c1 : w2.cell? ⟨w.heap.size, 1, none⟩ = some (.int .i64 fq) := bcell hb2 (by simp) (cell_of_row _ _ _ _ _ _ (heap_alloc_new w _))) | (go_at_call 43; refine (spec_lets _ _ _ _ _ _ _ _ hl (HS.out.below hbx)).mono ?_; rintro e w3 ⟨rfl, hb3⟩))
    go_ret
    exact ⟨by unfold letsIn; rw [H1.out, H2.out]; rfl, bstep hbx hb3 hbx.size⟩
theorem eqlEn (a q a' q' : Int) (w : World) : (binOp .eql 27 (.agg #[.int .i64 a, .int .i64 q]) (.agg #[.int .i64 a', .int .i64 q'])).run Try.prog w = .ok (.bool ((a == a') && (q == q'))) w := by
  have u3 := Try.underlying3
  have a3 := Try.isAgg3
  have z3 := Try.sizeOf3
  have hS : Try.prog.underlying 27 = some (.struct (Try.prog.fieldsOf 27)) := by kernel_rfl
  have hp : Try.prog.stoodInHeld 27 = false := by kernel_rfl
  rw [run_eql_struct, show (10000 : Nat) = 9999 + 1 from rfl, run_equalIn_agg w 9999 27 _ _ hS hp]
  simp only [Program.fieldsOf, Try.underlying27]
  go_simp
  by_cases h1 : a = a' <;> by_cases h2 : q = q' <;> simp [h1, h2]
theorem letP_or (kind port fa fq : Int) (x : Ct) : ((x.p == port) && (((x.a == fa) && (x.q == fq)) || ((kind == 1) && (x.a == fa)))) = letP kind port fa fq x := by
  unfold letP
  cases (x.p == port) <;> cases (x.a == fa) <;> cases (x.q == fq) <;> cases (kind == 1) <;> rfl
set_option maxHeartbeats 2000000 in
theorem impl_LetsIn_1 (p a q kind port fa fq : Int) (bp bf bk : Nat) (W : World) (h1 : W.cell? ⟨bp, 0, none⟩ = some (.int .i64 port)) (h2 : W.cell? ⟨bf, 0, none⟩ = some (.int .i64 fa)) (h3 : W.cell? ⟨bf, 1, none⟩ = some (.int .i64 fq)) (h4 : W.cell? ⟨bk, 0, none⟩ = some (.int .i64 kind)) :
    Calls Try.prog 46 #[.agg #[.int .i64 p, .int .i64 a, .int .i64 q], .pointer (some ⟨bp, 0, none⟩), .pointer (some ⟨bf, 0, none⟩), .pointer (some ⟨bk, 0, none⟩)] W (Ret W (.bool (letP kind port fa fq ⟨p, a, q⟩))) := by
  rw [← letP_or]
  have l1 := World.block_lt_of_cell? _ _ h1
  have l2 := World.block_lt_of_cell? _ _ h2
  have l4 := World.block_lt_of_cell? _ _ h4
  simp only [] at l1 l2 l4 ⊢
  have E := eqlEn a q fa fq
  cases g1 : (p == port)
  · go_enter Try.func46, Try.ntmps46
    go_wp2
    go_ret
    exact ⟨by simp, (Below.refl _ _).alloc (Nat.le_refl _) _⟩
  cases g2 : ((a == fa) && (q == fq))
  · rw [g2] at E
    cases g3 : (kind == 1)
    · go_enter Try.func46, Try.ntmps46
      go_wp2
      go_ret
      exact ⟨by simp, (Below.refl _ _).alloc (Nat.le_refl _) _⟩
    · cases g4 : (a == fa)
      all_goals
        have G2 := Lib.hid g2
        clear g2
        go_enter Try.func46, Try.ntmps46
        go_wp2
        go_ret
        exact ⟨by simp, (Below.refl _ _).alloc (Nat.le_refl _) _⟩
  · rw [g2] at E
    have G2 := Lib.hid g2
    clear g2
    go_enter Try.func46, Try.ntmps46
    go_wp2
    go_ret
    exact ⟨by simp, (Below.refl _ _).alloc (Nat.le_refl _) _⟩
set_option maxHeartbeats 2000000 in
theorem impl_LetsIn (kind port fa fq : Int) (A : Option Addr) (c : Nat) (l : List Ct) (w : World) (hl : l.length ≤ 2000000) (hs : Sl encC 3 w A c l) :
    Calls Try.prog 24 #[.int .i64 kind, .slice A l.length c, .int .i64 port, .agg #[.int .i64 fa, .int .i64 fq]] w (Ret w (.bool (letsIn kind l port fa fq))) := by
  obtain ⟨wb, hwb⟩ : ∃ x, x = ((w.alloc (.cells #[.int .i64 kind] 3)).alloc (.cells #[.int .i64 port] 3)).alloc (.cells #[.int .i64 fa, .int .i64 fq] 27) := ⟨_, rfl⟩
  have hb : Below w.heap.size w wb := by
    subst hwb
    exact (((Below.refl _ _).alloc (Nat.le_refl _) _).alloc (by simp) _).alloc (by simp; omega) _
  have hz : wb.heap.size = w.heap.size + 3 := by subst hwb; simp
  have k0 : wb.cell? ⟨w.heap.size, 0, none⟩ = some (.int .i64 kind) := by
    subst hwb
    rw [World.cell?_alloc_lt _ _ _ (by simp; omega), World.cell?_alloc_lt _ _ _ (by simp)]
    exact cell_of_row _ _ _ _ _ _ (heap_alloc_new _ _)
  have p0 : wb.cell? ⟨w.heap.size + 1, 0, none⟩ = some (.int .i64 port) := by
    subst hwb
    rw [World.cell?_alloc_lt _ _ _ (by simp)]
    simp
  have q0 : wb.cell? ⟨w.heap.size + 1 + 1, 0, none⟩ = some (.int .i64 fa) := by
    subst hwb
    have := cell_of_row _ _ 0 _ _ _ (heap_alloc_new ((w.alloc (.cells #[.int .i64 kind] 3)).alloc (.cells #[.int .i64 port] 3)) (.cells #[.int .i64 fa, .int .i64 fq] 27))
    simpa using this
  have q1 : wb.cell? ⟨w.heap.size + 1 + 1, 1, none⟩ = some (.int .i64 fq) := by
    subst hwb
    have := cell_of_row _ _ 1 _ _ _ (heap_alloc_new ((w.alloc (.cells #[.int .i64 kind] 3)).alloc (.cells #[.int .i64 port] 3)) (.cells #[.int .i64 fa, .int .i64 fq] 27))
    simpa using this
  have hmf : ∀ (fn : Fn) (first cap : Array Value) (w : World), (Instr.makeFunc fn first cap).run Try.prog w = .ok (.func fn first cap) w := fun _ _ _ _ => rfl
  have HZ := Lib.hid hz
  have P0 := Lib.hid p0
  have Q0 := Lib.hid q0
  have Q1 := Lib.hid q1
  have K0 := Lib.hid k0
  have HS := Lib.hid hs
  have WB := Lib.hid hwb
  clear hz p0 q0 q1 hs hwb k0
  cases h1 : inR kind 0 2
  · have H1 := Lib.hid h1
    clear h1
    go_enter Try.func24, Try.ntmps24
    go_wp2_with (first | (go_at_call 44; refine (impl_in _ _ _ _).mono ?_; rintro e w' ⟨rfl, rfl⟩; rw [H1.out]))
    go_ret
    exact ⟨by unfold letsIn; rw [H1.out]; rfl, by rw [← WB.out]; exact hb⟩
  cases h2 : vC l
  · have H1 := Lib.hid h1
    have H2 := Lib.hid h2
    clear h1 h2
    go_enter Try.func24, Try.ntmps24
    go_wp2_with (first | (go_at_call 44; refine (impl_in _ _ _ _).mono ?_; rintro e w' ⟨rfl, rfl⟩; rw [H1.out, ← WB.out]) | (go_at_call 18; refine (impl_ValidContacts _ _ _ _ hl (HS.out.below hb)).mono ?_; rintro e w2 ⟨rfl, hb2⟩; rw [H2.out]))
    go_ret
    exact ⟨by unfold letsIn; rw [H1.out, H2.out]; rfl, bstep hb hb2 hb.size⟩
  cases h3 : (kind == 0)
  all_goals
    have H1 := Lib.hid h1
    have H2 := Lib.hid h2
    have H3 := Lib.hid h3
    clear h1 h2
    go_enter Try.func24, Try.ntmps24
    go_wp2_with (first | (go_at_call 44; refine (impl_in _ _ _ _).mono ?_; rintro e w' ⟨rfl, rfl⟩; rw [H1.out, ← WB.out]) | (go_at_call 18; refine (impl_ValidContacts _ _ _ _ hl (HS.out.below hb)).mono ?_; rintro e w2 ⟨rfl, hb2⟩; rw [H2.out]; have hb3 := bstep hb hb2 hb.size; have k2 := bcell hb2 (by have := HZ.out; simp; omega) K0.out) | (go_at_call 45; refine (ContainsFunc_ct _ _ _ _ _ (letP kind port fa fq) _ hl (HS.out.below hb3) (fun _ _ => by kernel_rfl) ?_).mono ?_; rotate_left; rintro e w4 ⟨rfl, hb4⟩))
    go_ret
  · exact ⟨by unfold letsIn lets; rw [H1.out, H2.out, H3.out]; rfl, bstep hb3 hb4 hb3.size⟩
  · intro p a q W hW
    have hzz := HZ.out
    have hz2 := hb2.size
    exact impl_LetsIn_1 p a q kind port fa fq (w.heap.size + 1) (w.heap.size + 1 + 1) w.heap.size W
      (bcell hW (by simp; omega) (bcell hb2 (by simp; omega) P0.out)) (bcell hW (by simp; omega) (bcell hb2 (by simp; omega) Q0.out))
      (bcell hW (by simp; omega) (bcell hb2 (by simp; omega) Q1.out)) (bcell hW (by simp; omega) (bcell hb2 (by simp; omega) K0.out))
  · exact ⟨by unfold letsIn lets; rw [H1.out, H2.out, H3.out]; rfl, hb3⟩
end Go.Proofs.Ytafmalklgecomaa
