/- Contracts of package wire's pen: Nums, Text, Sum, Bytes. -/
import Derived.Test.YtcbcjgdhbopceaaPen
namespace Go.Proofs.Ytcbcjgdhbopceaa
open Go.RowKit

theorem pen_text_nil (v : Value) (a : Option Addr) (n c : Nat) (hv : v = .slice a n c) (w : World) :
    Calls Try.prog 33 #[.pointer none, v] w fun e w' => e = .returned (.pointer none) ∧ w = w' := by
  subst hv
  go_enter Try.func33, Try.ntmps33
  go_wp2
  go_ret
  exact ⟨rfl, rfl⟩

theorem pen_text (g : Nat) (v : Value) (l s : List Nat) (A : Option Addr) (c : Nat) (w : World) (hl : l.length + s.length + 9 ≤ 140737488355328) (h : Pen w g v l) (hA : Bytes w A s) (hS : ∀ ad, A = some ad → 0 < s.length → ¬ PenS g v ad.block) :
    Calls Try.prog 33 #[.pointer (some ⟨g, 0, none⟩), .slice A s.length c] w (PenPost w g v (l ++ enc s.length ++ s)) := by
  have HL := Lib.hid hl
  have HLE := Lib.hid (enc_len9 (n := s.length) (by omega))
  have HB := Lib.hid hA
  have HSS := Lib.hid hS
  have HN := Lib.hid (pen_num g v l s.length (by omega) w (by omega) h)
  clear hA hS h hl
  go_enter Try.func33, Try.ntmps33
  go_wp2_with fail
  refine HN.out.mono ?_
  rintro e w1 ⟨rfl, v1, hp1, ho1, hv1⟩
  have hc0 := hp1.c0
  have HP := Lib.hid hp1
  have HO := Lib.hid ho1
  have HV := Lib.hid hv1
  have HB1 := Lib.hid (HB.out.only ho1 HSS.out)
  clear hp1 ho1 hv1
  obtain ⟨N, hN⟩ : ∃ N, Hid (N = (l ++ enc s.length).length + s.length) := ⟨_, Lib.hid rfl⟩
  go_wp2_with (at_builtin; go_must ((refine wpList_app2 (v := v1) N hN.out rfl _ _ rfl rfl HP.out.2 rfl HB1.out rfl (Nat.zero_le _) (by have := HL.out; have := HLE.out; simp only [List.length_append]; omega) ?_; intro A2 c2 w2 hown hgr hbl; obtain ⟨hc2, hf2⟩ := pen_after HP.out (Only.refl (fun _ => False) w1) hgr; have HO2 := Lib.hid hown; have HG2 := Lib.hid hgr; have HB2 := Lib.hid hbl; clear hown hgr hbl)))
  go_ret
  obtain ⟨q1, q2, q3⟩ := pen_step HP.out HO.out HV.out _ (Only.refl (fun _ => False) w1) HO2.out HG2.out HB2.out
  exact ⟨rfl, _, q1, q2, q3⟩

theorem pen_bytes_nil (w : World) :
    Calls Try.prog 36 #[.pointer none] w fun e w' => e = .returned (.slice none 0 0) ∧ w = w' := by
  go_enter Try.func36, Try.ntmps36
  go_wp2
  go_ret
  exact ⟨rfl, rfl⟩
theorem pen_bytes (g : Nat) (v : Value) (l : List Nat) (w : World) (hl : l.length ≤ 140737488355328) (h : Pen w g v l) :
    Calls Try.prog 36 #[.pointer (some ⟨g, 0, none⟩)] w fun e w' => ∃ v', e = .returned v' ∧ OwnB w' w.heap.size v' l ∧ Only (fun _ => False) w w' := by
  have hc0 := h.c0
  obtain ⟨A, c, hv, _, _, hB, _⟩ := h.2.form
  subst hv
  have HB := Lib.hid hB
  clear hB h
  go_enter Try.func36, Try.ntmps36
  go_wp2_with (at_builtin; go_must ((refine wpList_app (v := .slice none 0 0) rfl _ _ rfl rfl (OwnB.nil _ w.heap.size) rfl HB.out rfl (Nat.le_refl _) (by simp only [List.length_nil]; omega) ?_; intro v2 w2 hown hgr _; have HO2 := Lib.hid hown; have HG2 := Lib.hid hgr; clear hown hgr)))
  go_ret
  exact ⟨v2, rfl, HO2.out, (Only.refl (fun _ => False) w).grown HG2.out (fun k hk => by cases hk)⟩

theorem pen_sum_nil (cs : Array Value) (w : World) :
    Calls Try.prog 34 #[.pointer none, .agg cs] w fun e w' => e = .returned (.pointer none) ∧ Only (fun _ => False) w w' := by
  go_enter Try.func34, Try.ntmps34
  go_wp2
  go_ret
  exact ⟨rfl, (Only.refl _ w).alloc _⟩

theorem bytes_row {w : World} {g : Nat} {t : TypeId} {l : List Nat} (hg : w.heap[g]? = some (.cells (l.map bc).toArray t)) (hb : ∀ b ∈ l, b < 256) : Bytes w (some ⟨g, 0, none⟩) l :=
  ⟨hb, fun ad e _ => by obtain rfl := Option.some.inj e; exact (Array.getElem?_eq_some_iff.1 hg).1, fun _ => ⟨_, rfl, fun i hi => by
    have : (⟨g, 0, none⟩ : Addr).add i = ⟨g, i, none⟩ := by unfold Addr.add; split <;> simp_all
    rw [this, cell_of_row _ _ _ _ _ _ hg]
    simp [List.getD_eq_getElem?_getD, List.getElem?_eq_getElem hi]⟩⟩

theorem pen_sum (g : Nat) (v : Value) (l s : List Nat) (hs : s.length = 32) (hsb : ∀ b ∈ s, b < 256) (w : World) (hl : l.length + 32 ≤ 140737488355328) (h : Pen w g v l) :
    Calls Try.prog 34 #[.pointer (some ⟨g, 0, none⟩), .agg (s.map bc).toArray] w (PenPost w g v (l ++ s)) := by
  have HL := Lib.hid hl
  have HS := Lib.hid hs
  have H0 := Lib.hid h
  clear hl
  go_enter Try.func34, Try.ntmps34
  go_wp2_with fail
  have ho : Only (fun _ => False) w (w.alloc (.cells (s.map bc).toArray 26)) := (Only.refl _ w).alloc _
  have hnew := heap_alloc_new w (.cells (s.map bc).toArray 26)
  generalize (w.alloc (.cells (s.map bc).toArray 26)) = W at *
  have HP := Lib.hid (h.only ho (fun f => f) (fun _ _ f => f))
  have HPd : Hid (Pen W.drew g v l) := Lib.hid (HP.out.only (S := fun _ => False) ((Only.refl _ W).drew) (fun f => f) (fun _ _ f => f))
  have hc0 := HPd.out.c0
  have hf0 := HPd.out.f0 0
  have HBy : Hid (Bytes W.drew (some ⟨w.heap.size, 0, none⟩) s) := Lib.hid (bytes_row (g := w.heap.size) (t := 26) hnew hsb)
  have HO := Lib.hid ho
  clear h ho hnew hs
  obtain ⟨N, hN⟩ : ∃ N, Hid (N = l.length + s.length) := ⟨_, Lib.hid rfl⟩
  go_region_law (((refine step_app2 (v := v) N hN.out rfl _ _ rfl rfl HPd.out.2 rfl HBy.out HS.out.symm (Nat.zero_le _) (by have := HL.out; have := HS.out; omega) ?_; intro A2 c2 w2 hown hgr hbl; obtain ⟨hc2, hf2⟩ := pen_after HPd.out (Only.refl (fun _ => False) W.drew) hgr; have HO2 := Lib.hid hown; have HG2 := Lib.hid hgr; have HB2 := Lib.hid hbl; clear hown hgr hbl)))
  go_wp2
  go_ret
  obtain ⟨q1, q2, q3⟩ := pen_step (w0 := w) HPd.out ((HO.out.mono (fun _ _ f => f.elim)).drew) (.inl rfl) _ (Only.refl (fun _ => False) W.drew) HO2.out HG2.out HB2.out
  exact ⟨rfl, _, q1, q2, q3⟩
end Go.Proofs.Ytcbcjgdhbopceaa
