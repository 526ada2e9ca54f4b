/- NoteContact, DropContacts: the program's and the reference's, walked. -/
import Derived.Test.YtafmalklgecomaaCn
namespace Go.Proofs.Ytafmalklgecomaa
open Go.RowKit
/-- A contact is noted behind all others; of more than ten the first one goes. -/
def noteC (l : List Ct) (x : Ct) : List Ct := let r := keep (fun y => decide (y = x)) l ++ [x]; r.drop (r.length - 10)
def dropC (l : List Ct) (port : Int) : List Ct := keep (fun y => y.p == port) l
theorem note_eq (l : List Ct) (x : Ct) (hl : l.length ≤ 10 := by assumption) : (keep (fun y => decide (y = x)) l).length ≤ 10 ∧ noteC l x = (keep (fun y => decide (y = x)) l ++ [x]).drop ((keep (fun y => decide (y = x)) l ++ [x]).length - 10) :=
  ⟨Nat.le_trans (List.length_filter_le _ _) hl, rfl⟩
theorem keep_len {α : Type} (f : α → Bool) (l : List α) : (keep f l).length ≤ l.length := List.length_filter_le _ _
theorem blC (w : World) (p a q : Int) : Bl encC 3 29 (w.alloc (.cells #[.int .i64 p, .int .i64 a, .int .i64 q] 29)) w.heap.size 3 [⟨p, a, q⟩] := Bl.one (enc := encC) (k := 3) (fun _ => rfl) w _ rfl
theorem impl_NoteContact_1 (p a q p' a' q' : Int) (bc : Nat) (W : World) (h1 : W.cell? ⟨bc, 0, none⟩ = some (.int .i64 p')) (h2 : W.cell? ⟨bc, 1, none⟩ = some (.int .i64 a')) (h3 : W.cell? ⟨bc, 2, none⟩ = some (.int .i64 q')) :
    Calls Try.prog 53 #[.agg #[.int .i64 p, .int .i64 a, .int .i64 q], .pointer (some ⟨bc, 0, none⟩)] W (Ret W (.bool (decide ((⟨p, a, q⟩ : Ct) = ⟨p', a', q'⟩)))) := by
  have l1 := World.block_lt_of_cell? _ _ h1
  simp only [] at l1
  cases he : decide ((⟨p, a, q⟩ : Ct) = ⟨p', a', q'⟩)
  all_goals
    have E := eqCt _ _ _ _ _ _ he
    clear he
    go_enter Try.func53, Try.ntmps53
    go_wp2
    go_ret
    exact ⟨rfl, (Below.refl _ _).alloc (Nat.le_refl _) _⟩
set_option maxHeartbeats 4000000 in
theorem impl_NoteContact (A : Option Addr) (c : Nat) (l : List Ct) (p a q : Int) (w : World) (hl : l.length ≤ 2000000) (hs : Sl encC 3 w A c l) :
    Calls Try.prog 28 #[.slice A l.length c, .agg #[.int .i64 p, .int .i64 a, .int .i64 q]] w (fun e w' => Below w.heap.size w w' ∧
      ((vC l && okC ⟨p, a, q⟩) = false ∧ e = .returned (.tuple #[.slice none 0 0, .bool false]) ∨
       (vC l && okC ⟨p, a, q⟩) = true ∧ ∃ A', e = .returned (.tuple #[.slice A' (noteC l ⟨p, a, q⟩).length (noteC l ⟨p, a, q⟩).length, .bool true]) ∧ Out encC 3 w.heap.size w' A' (noteC l ⟨p, a, q⟩).length (noteC l ⟨p, a, q⟩))) := by
  obtain ⟨wq, hwq⟩ : ∃ x, x = w.alloc (.cells #[.int .i64 p, .int .i64 a, .int .i64 q] 29) := ⟨_, rfl⟩
  have hq : Below w.heap.size w wq := by subst hwq; exact (Below.refl _ _).alloc (Nat.le_refl _) _
  have hwz : wq.heap.size = w.heap.size + 1 := by subst hwq; exact alloc_size _ _
  have k0 : wq.cell? ⟨w.heap.size, 0, none⟩ = some (.int .i64 p) := by subst hwq; exact cell_of_row _ _ _ _ _ _ (heap_alloc_new _ _)
  have k1 : wq.cell? ⟨w.heap.size, 1, none⟩ = some (.int .i64 a) := by subst hwq; exact cell_of_row _ _ _ _ _ _ (heap_alloc_new _ _)
  have k2 : wq.cell? ⟨w.heap.size, 2, none⟩ = some (.int .i64 q) := by subst hwq; exact cell_of_row _ _ _ _ _ _ (heap_alloc_new _ _)
  have hmf : ∀ (fn : Fn) (first cap : Array Value) (w : World), (Instr.makeFunc fn first cap).run Try.prog w = .ok (.func fn first cap) w := fun _ _ _ _ => rfl
  have WQ := Lib.hid hwq
  have HZ := Lib.hid hwz
  have HS := Lib.hid hs
  have K0 := Lib.hid k0
  have K1 := Lib.hid k1
  have K2 := Lib.hid k2
  clear hwq hwz hs k0 k1 k2
  cases h1 : vC l
  · have H1 := Lib.hid h1
    clear h1
    go_enter Try.func28, Try.ntmps28
    go_wp2_with (first | (go_at_call 18; rw [← WQ.out]; refine (impl_ValidContacts _ _ _ _ hl (HS.out.below hq)).mono ?_; rintro e w2 ⟨rfl, hb2⟩; rw [H1.out]))
    go_ret2
    exact ⟨bstep hq hb2 hq.size, .inl ⟨rfl, rfl⟩⟩
  cases h2 : okC ⟨p, a, q⟩
  · have H1 := Lib.hid h1
    have H2 := Lib.hid h2
    clear h1 h2
    go_enter Try.func28, Try.ntmps28
    go_wp2_with (first | (go_at_call 18; rw [← WQ.out]; refine (impl_ValidContacts _ _ _ _ hl (HS.out.below hq)).mono ?_; rintro e w2 ⟨rfl, hb2⟩; rw [H1.out]; have q0 := bcell hb2 (by have := HZ.out; simp; omega) K0.out; have q1 := bcell hb2 (by have := HZ.out; simp; omega) K1.out; have q2 := bcell hb2 (by have := HZ.out; simp; omega) K2.out; have hb3 := bstep hq hb2 hq.size) | (go_at_call 39; refine (impl_Contact_valid _ _ _ _).mono ?_; rintro e w3 ⟨rfl, hb4⟩; rw [H2.out]))
    go_ret2
    exact ⟨bstep hb3 hb4 hb3.size, .inl ⟨rfl, rfl⟩⟩
  · have H1 := Lib.hid h1
    have H2 := Lib.hid h2
    have hl10 : l.length ≤ 10 := by unfold vC at h1; exact (of_decide_eq_true h1).1
    clear h1 h2
    go_enter Try.func28, Try.ntmps28
    go_wp2_with (first | (go_at_call 18; rw [← WQ.out]; refine (impl_ValidContacts _ _ _ _ hl (HS.out.below hq)).mono ?_; rintro e w2 ⟨rfl, hb2⟩; rw [H1.out]; have q0 := bcell hb2 (by have := HZ.out; simp; omega) K0.out; have q1 := bcell hb2 (by have := HZ.out; simp; omega) K1.out; have q2 := bcell hb2 (by have := HZ.out; simp; omega) K2.out; have hb3 := bstep hq hb2 hq.size) | (go_at_call 39; refine (impl_Contact_valid _ _ _ _).mono ?_; rintro e w3 ⟨rfl, hb4⟩; rw [H2.out]))
    have hb5 := bstep hb3 hb4 hb3.size
    have hz3 : w.heap.size < w3.heap.size := by have := hb2.size; have := hb4.size; have := HZ.out; omega
    have c0 : ∀ W, Below w3.heap.size w3 W → W.cell? ⟨w.heap.size, 0, none⟩ = some (.int .i64 p) := fun W h => bcell h hz3 (bcell hb4 (by have := hb2.size; have := HZ.out; simp; omega) q0)
    have c1 : ∀ W, Below w3.heap.size w3 W → W.cell? ⟨w.heap.size, 1, none⟩ = some (.int .i64 a) := fun W h => bcell h hz3 (bcell hb4 (by have := hb2.size; have := HZ.out; simp; omega) q1)
    have c2 : ∀ W, Below w3.heap.size w3 W → W.cell? ⟨w.heap.size, 2, none⟩ = some (.int .i64 q) := fun W h => bcell h hz3 (bcell hb4 (by have := hb2.size; have := HZ.out; simp; omega) q2)
    have SL := Lib.hid (fun W (h : Below w3.heap.size w3 W) => HS.out.below (hb5.trans (h.mono hb5.size)))
    have CL := Lib.hid (fun W (h : Below w3.heap.size w3 W) (p' a' q' : Int) => impl_NoteContact_1 p' a' q' p a q w.heap.size W (c0 W h) (c1 W h) (c2 W h))
    clear q0 q1 q2 hb2 hb3 hb4
    go_region_held3 (fun W => Below w3.heap.size w3 W) (first | exact (Below.refl _ _).drew | assumption | (refine Below.alloc (by assumption) ?_ _; exact Below.size (by assumption))) (first | (go_at_call 52; refine (Clone_ct _ _ _ _ _ rfl hl (SL.out _ (by assumption))).mono ?_; rintro e w5 ⟨A1, c1, rfl, hown1, hb6⟩; have hk5 := bstep (B := w3.heap.size) (a := w3) (by assumption) hb6 (Below.size (by assumption)); have how := hown1.base (B' := w3.heap.size) (by simp); first | (have bl1 : Bl encC 3 29 w5 w3.heap.size 3 [⟨p, a, q⟩] := (blC w3.drew p a q).below hb6 (by simp); have ne1 : some w3.heap.size ≠ blk A1 := ne_of_base hown1 (by simp)) | skip) | (go_at_call 51; refine (DeleteFunc_ct _ _ w3.heap.size _ 53 #[.pointer (some ⟨w.heap.size, 0, none⟩)] (fun y => decide (y = (⟨p, a, q⟩ : Ct))) _ hl (by first | exact how | exact how.alloc _) (Below.size (by assumption)) (fun _ _ => by kernel_rfl) (fun p' a' q' W hW => CL.out W (below_app (by assumption) hW (Below.size (by assumption)) (fun g hg => (how.blk g hg).1)) p' a' q')).mono ?_; rintro e w6 ⟨rfl, how6, hg6⟩; have hk6 : Below w3.heap.size w3 w6 := below_app (by assumption) hg6 (Below.size (by assumption)) (fun g hg => (how.blk g hg).1); first | (have bl2 : Bl encC 3 29 w6 w3.heap.size 3 [⟨p, a, q⟩] := bl1.grown hg6 ne1) | (have bl2 : Bl encC 3 29 w6 w5.heap.size 3 [⟨p, a, q⟩] := (blC w5 p a q).grown hg6 (ne_of_lt how (Nat.le_refl _))) | skip) | (refine step_app elC rfl (.tmp 18) (.tmp 20) rfl w3.heap.size _ _ _ (keep (fun y => decide (y = (⟨p, a, q⟩ : Ct))) l) rfl rfl (by first | exact how6 | exact how6.alloc _) _ _ _ [⟨p, a, q⟩] rfl rfl (by first | exact bl2.sl | exact (blC w6 p a q).sl) (by have := keep_len (fun y => decide (y = (⟨p, a, q⟩ : Ct))) l; simp; omega) (by decide) (Below.size (by assumption)) ?_; intro A7 c7 w7 hown7 hg7 _; have hk7 : Below w3.heap.size w3 w7 := below_app (by assumption) hg7 (Below.size (by assumption)) (fun g hg => (how6.blk g hg).1)))
    all_goals
      clear SL CL hg6 hg7
      have hF := note_eq l ⟨p, a, q⟩
      generalize keep (fun y => decide (y = (⟨p, a, q⟩ : Ct))) l = F at *
      have HF := Lib.hid hF
      clear hF
      obtain ⟨g7, rfl, _, hc7, hcm7, _⟩ := hown7.resolve_left (by rintro ⟨_, _, h⟩; simp at h)
      have HO := Lib.hid hown7
      have hl7 : F.length + 1 ≤ c7 := by simpa using hc7
      have hm7 : c7 ≤ 9223372036854775807 := by unfold maxLen at hcm7; omega
      clear hown7 hc7
      by_cases h10 : F.length + 1 ≤ 10
      · go_wp2_with (go_at_call 54; refine (clone_ct _ _ _ (F ++ [⟨p, a, q⟩]) _ (by simp) (by simp; omega) HO.out.sl).mono ?_; rintro e w8 ⟨A8, rfl, hout8, hb8⟩)
        go_ret2
        have e8 : noteC l ⟨p, a, q⟩ = F ++ [⟨p, a, q⟩] := by rw [HF.out.2, List.length_append, List.length_singleton, show F.length + 1 - 10 = 0 from by omega]; rfl
        refine ⟨bstep (hb5.trans (hk7.mono hb5.size)) hb8 (Nat.le_trans hb5.size hk7.size), .inr ⟨rfl, A8, ?_, ?_⟩⟩
        · rw [e8]; simp
        · rw [e8, List.length_append]; exact hout8.mono (Nat.le_trans hb5.size hk7.size)
      · have hF9 : 10 ≤ F.length := by omega
        have hF10 : F.length ≤ 10 := HF.out.1
        have h1c : 1 < c7 := by omega
        have hs2 : Sl encC 3 w7 (some ⟨g7, 3, none⟩) (c7 - 1) ((F ++ [(⟨p, a, q⟩ : Ct)]).drop 1) := by
          have h := HO.out.sl.drop 1 (by simp)
          rw [if_neg (show ¬ c7 = 1 by omega)] at h
          simpa [Addr.add] using h
        have HS2 := Lib.hid hs2
        clear hs2
        go_wp2_with (go_at_call 54; refine (clone_ct _ _ _ ((F ++ [(⟨p, a, q⟩ : Ct)]).drop 1) _ (by simp) (by simp; omega) HS2.out).mono ?_; rintro e w8 ⟨A8, rfl, hout8, hb8⟩)
        go_ret2
        have e8 : noteC l ⟨p, a, q⟩ = (F ++ [(⟨p, a, q⟩ : Ct)]).drop 1 := by rw [HF.out.2, List.length_append, List.length_singleton, show F.length + 1 - 10 = 1 from by omega]
        refine ⟨bstep (hb5.trans (hk7.mono hb5.size)) hb8 (Nat.le_trans hb5.size hk7.size), .inr ⟨rfl, A8, ?_, ?_⟩⟩
        · rw [e8]; simp
        · rw [e8]; simpa using hout8.mono (Nat.le_trans hb5.size hk7.size)
end Go.Proofs.Ytafmalklgecomaa
