/- WirePuts: the walk. -/
import Derived.Test.YtcbcjgdhbopceaaPuts1
import Derived.Test.YtcbcjgdhbopceaaSums
namespace Go.Proofs.Ytcbcjgdhbopceaa
open Go.RowKit

/-- A pen that was made since W, and what it holds. -/
def Fresh (W : World) (g : Nat) (v : Value) (l : List Nat) (w : World) : Prop :=
  Pen w g v l ∧ Only (· = g) W w ∧ ∀ k, v.ownBlock = some k → W.heap.size ≤ k
theorem Fresh.step {W w w' : World} {g : Nat} {v : Value} {l l' : List Nat} {e : Ending} (h : Fresh W g v l w) (hp : PenPost w g v l' e w') :
    e = .returned (.pointer (some ⟨g, 0, none⟩)) ∧ ∃ v', Fresh W g v' l' w' := by
  obtain ⟨he, v', hp', ho, hv⟩ := hp
  refine ⟨he, v', hp', h.2.1.trans ho ?_, ?_⟩
  · intro i hi ht
    rcases ht with ht | ht
    · exact ht
    · have := h.2.2 i ht; omega
  · intro k hk
    rcases hv with hv | ⟨k', hv, hle⟩
    · exact h.2.2 k (hv ▸ hk)
    · rw [hv] at hk
      obtain rfl := Option.some.inj hk
      exact Nat.le_trans h.2.1.size hle

/-- The numbers' cut: at most 30. -/
def WantRel (w1 : World) (zs : List Int) (v i : Value) (wr : World) : Prop :=
  ∃ j : Nat, i = .int .i64 j ∧ j ≤ zs.length ∧ OwnB wr w1.heap.size v (encs (zs.take j)) ∧ Only (fun _ => False) w1 wr

set_option maxRecDepth 100000 in
theorem puts_walk (A : Option Addr) (zs0 : List Int) (c0 : Nat) (hc0 : zs0.length ≤ c0) (hm0 : c0 ≤ maxLen) (T : Option Addr) (t0 : List Nat) (c1 : Nat) (hc1 : t0.length ≤ c1) (hm1 : c1 ≤ maxLen) (s : List Nat) (hs : s.length = 32) (hsb : ∀ b ∈ s, b < 256)
    (w : World) (hz0 : ∀ z ∈ zs0, z < 9223372036854775808) (hA : Ints w A zs0) (hT : Bytes w T t0) :
    Calls Try.prog 9 #[.slice A zs0.length c0, .slice T t0.length c1, (.agg (s.map bc).toArray)] w fun e w' => e = .returned (.bool true) ∧ Only (fun _ => False) w w' := by
  have HM0 := Lib.hid hm0
  have HM1 := Lib.hid hm1
  have HA0 := Lib.hid hA
  have HT0 := Lib.hid hT
  have HS := Lib.hid hs
  have HSB := Lib.hid hsb
  have HZ0 := Lib.hid hz0
  clear hm0 hm1 hA hT hs hsb hz0
  go_enter Try.func9, Try.ntmps9
  go_upto_if 16 with fail
  go_cut [0] (fun x wx => x = .slice A (zs0.take 30).length c0 ∧ w.alloc (.cells (s.map bc).toArray 26) = wx)
  case first =>
    by_cases h30 : 30 < (zs0.length : Int)
    · have hlt : (zs0.take 30).length = 30 := by rw [List.length_take]; omega
      have := HM0.out
      unfold maxLen at this
      go_wp2_with fail
      go_meet
      exact ⟨by rw [hlt], rfl⟩
    · have hlt : (zs0.take 30).length = zs0.length := by rw [List.length_take]; omega
      go_wp2_with fail
      go_meet
      exact ⟨by rw [hlt], rfl⟩
  case rest =>
  obtain ⟨rfl, rfl⟩ := hcut
  have hzl : (zs0.take 30).length ≤ 30 := by rw [List.length_take]; omega
  have HZ : Hid (∀ z ∈ zs0.take 30, z < 9223372036854775808) := Lib.hid (fun z hz => HZ0.out z (List.mem_of_mem_take hz))
  have HA1 : Hid (Ints w A (zs0.take 30)) := Lib.hid (fun hp => by
    have h1 : 0 < zs0.length := by rw [List.length_take] at hp; omega
    obtain ⟨ad, e, hc⟩ := HA0.out h1
    refine ⟨ad, e, fun i hi => ?_⟩
    rw [List.length_take] at hi
    rw [hc i (by omega)]
    simp [List.getD_eq_getElem?_getD, List.getElem?_take, (by omega : i < 30)])
  generalize zs0.take 30 = zs at *
  clear HA0 HZ0 hc0
  have HW1 : Hid ((w.alloc (.cells (s.map bc).toArray 26)).heap[w.heap.size]? = some (.cells (s.map bc).toArray 26)) := Lib.hid (heap_alloc_new w _)
  have ho1 := (Only.refl (fun _ => False) w).alloc (.cells (s.map bc).toArray 26)
  have HO1 := Lib.hid ho1
  clear ho1
  generalize w.alloc (.cells (s.map bc).toArray 26) = w1 at *
  go_wp2_with fail
  refine (cut_take T t0 c1 hc1 HM1.out _).mono ?_
  rintro e w' ⟨rfl, rfl⟩
  have htl : (t0.take 200).length ≤ 200 := by rw [List.length_take]; omega
  have htc : (t0.take 200).length ≤ c1 := by rw [List.length_take]; omega
  have HT := Lib.hid (HT0.out.take 200)
  generalize t0.take 200 = t at *
  clear HT0 hc1
  go_wp2_with fail
  have ho2 := HO1.out.alloc (.cells #[.slice none 0 0] 59)
  have hp2 : Pen (w1.alloc (.cells #[.slice none 0 0] 59)) w1.heap.size (.slice none 0 0) [] := ⟨heap_alloc_new w1 _, OwnB.nil _ _⟩
  have HB2 : Hid ((w1.alloc (.cells #[.slice none 0 0] 59)).heap[w.heap.size]? = some (.cells (s.map bc).toArray 26)) := Lib.hid (by
    have hlt : w.heap.size < w1.heap.size := (Array.getElem?_eq_some_iff.1 HW1.out).1
    rw [((Only.refl (fun _ => False) w1).alloc (.cells #[.slice none 0 0] 59)).block _ hlt (fun f => f)]; exact HW1.out)
  have hg1 : Hid (w.heap.size < w1.heap.size) := Lib.hid (Array.getElem?_eq_some_iff.1 HW1.out).1
  have HP2 := Lib.hid hp2
  have HO2 := Lib.hid ho2
  have hz2 : (w1.alloc (.cells #[.slice none 0 0] 59)).heap.size = w1.heap.size + 1 := by simp
  have HZ2 := Lib.hid hz2
  clear hp2 ho2 hz2
  generalize hw2 : w1.alloc (.cells #[.slice none 0 0] 59) = w2 at *
  clear hw2
  go_loopw [8, 9] (fun v i wr => WantRel w2 zs v i wr) (fun _ i _ => zs.length - (intOf i).toNat)
  case atStart => exact ⟨0, rfl, by omega, by simpa [encs] using OwnB.nil _ _, Only.refl _ _⟩
  case round =>
    obtain ⟨j, rfl, hj, hown, ho⟩ := hrel
    have HOW := Lib.hid hown
    have HOR := Lib.hid ho
    clear hown ho
    by_cases hjz : (j : Int) < (zs.length : Int)
    · have hjn : j < zs.length := by omega
      obtain ⟨ad, rfl, hcell0⟩ := (HA1.out.only HA1.out.lt (HO2.out.trans HOR.out (fun _ _ f => f)) (fun _ _ _ f => f)) (by omega)
      have hcell := hcell0 j hjn
      have hmem : zs.getD j 0 ∈ zs := by rw [List.getD_eq_getElem?_getD, List.getElem?_eq_getElem hjn]; exact List.getElem_mem hjn
      have HT1 := Lib.hid (encs_take zs j hjn)
      have hz63 := Lib.hid (HZ.out _ hmem)
      have hl1 : Hid ((encs (zs.take j)).length ≤ 9 * 30) := Lib.hid (by
        have := encs_len (zs.take j) (fun z hz => HZ.out z (List.mem_of_mem_take hz))
        rw [List.length_take] at this; omega)
      generalize zs.getD j 0 = z at *
      clear hcell0 hmem
      go_wp2_with fail
      refine (number_any z hz63.out _).mono ?_
      rintro e w3 ⟨v3, rfl, hown3, ho3⟩
      obtain ⟨A3, c3, hv3, _, _, hb3, _⟩ := hown3.form
      have hle : (enc z.toNat).length ≤ 9 := enc_len9 (by have := hz63.out; omega)
      subst hv3
      have HOW3 := Lib.hid (HOW.out.only ho3 (fun _ _ f => f))
      have HOR3 := Lib.hid (HOR.out.trans ho3 (fun _ _ f => f))
      have HB3 := Lib.hid hb3
      clear hown3 ho3 hb3
      obtain ⟨n3, hn3⟩ : ∃ n, Hid ((enc z.toNat).length = n) := ⟨_, Lib.hid rfl⟩
      have hn9 : Hid (n3 ≤ 9) := Lib.hid (by rw [← hn3.out]; exact hle)
      clear hle
      rw [hn3.out]
      go_wp2_with (at_builtin; go_must ((refine wpList_app2 (v := u8) ((encs (zs.take j)).length + n3) (by rw [← hn3.out]) rfl _ _ rfl rfl HOW3.out rfl HB3.out hn3.out.symm HOR3.out.size (by have := hl1.out; have := hn9.out; have := hn3.out; omega) ?_; intro A4 c4 w4 hown4 hgr4 hbl4; have HOW4 := Lib.hid hown4; have HGR4 := Lib.hid hgr4; clear hown4 hgr4 hbl4)))
      go_roundw
      case rel => exact ⟨j + 1, by go_num, hjn, by rw [HT1.out]; exact HOW4.out, HOR3.out.grown HGR4.out (fun k hk => .inr (HOW3.out.lt k hk).1)⟩
      case measure => simp [intOf]; omega
    · have hjz : j = zs.length := by omega
      subst hjz
      have hown := HOW.out
      rw [List.take_length] at hown
      have HW := Lib.hid hown
      have hl1 : Hid ((encs zs).length ≤ 9 * 30) := Lib.hid (by have := encs_len zs HZ.out; omega)
      clear hown hj HOW
      have htl' := htl
      have HTL := Lib.hid htl
      have hlt9 : Hid ((enc t.length).length ≤ 9) := Lib.hid (enc_len9 (by omega))
      obtain ⟨k6, hk6⟩ : ∃ k, Hid (k = (encs zs).length + (enc t.length).length) := ⟨_, Lib.hid rfl⟩
      obtain ⟨k7, hk7⟩ : ∃ k, Hid (k = (encs zs ++ enc t.length).length + t.length) := ⟨_, Lib.hid rfl⟩
      obtain ⟨k8, hk8⟩ : ∃ k, Hid (k = (encs zs ++ enc t.length ++ t).length + s.length) := ⟨_, Lib.hid rfl⟩
      have hsum : Hid ((encs zs ++ enc t.length ++ t).length + s.length ≤ 600) := Lib.hid (by
        have h1 := hl1.out; have h2 := hlt9.out; have h3 := HS.out; simp only [List.length_append]; omega)
      have hk600 : Hid (k6 ≤ 600 ∧ k7 ≤ 600 ∧ k8 ≤ 600) := Lib.hid (by
        have h0 := hsum.out; have h1 := hk6.out; have h2 := hk7.out; have h3 := hk8.out
        simp only [List.length_append] at h0 h1 h2 h3; omega)
      clear htl
      go_wp2_with fail
      refine (number_any (t.length : Int) (by omega) _).mono ?_
      rw [Int.toNat_natCast]
      rintro e w5 ⟨v5, rfl, hown5, ho5⟩
      obtain ⟨A5, c5, hv5, _, _, hb5, _⟩ := hown5.form
      subst hv5
      have HW5 := Lib.hid (HW.out.only ho5 (fun _ _ f => f))
      have HO5 := Lib.hid (HOR.out.trans ho5 (fun _ _ f => f))
      have HB5 := Lib.hid hb5
      clear hown5 ho5 hb5 htl'
      go_upto_region 11 with (at_builtin; go_must ((refine wpList_app2 (v := u8) k6 hk6.out rfl _ _ rfl rfl HW5.out rfl HB5.out rfl HO5.out.size (by have h0 := hsum.out; simp only [List.length_append] at h0; omega) ?_; intro A6 c6 w6 hown6 hgr6 hbl6; have HW6 := Lib.hid hown6; have HO6 := Lib.hid (HO5.out.grown hgr6 (fun k hk => .inr (HW5.out.lt k hk).1)); clear hown6 hgr6 hbl6)))
      have HT6 := Lib.hid (HT.out.only (HO2.out.trans HO6.out (fun _ _ f => f)) (fun _ _ _ f => f))
      go_upto_region 12 with (at_builtin; go_must ((refine wpList_app2 (v := .slice A6 k6 c6) k7 hk7.out rfl _ _ rfl rfl HW6.out rfl HT6.out rfl HO6.out.size (by have h0 := hsum.out; simp only [List.length_append] at h0 ⊢; omega) ?_; intro A7 c7 w7 hown7 hgr7 hbl7; have HW7 := Lib.hid hown7; have HO7 := Lib.hid (HO6.out.grown hgr7 (fun k hk => .inr (HW6.out.lt k hk).1)); clear hown7 hgr7 hbl7)))
      have HB7 : Hid (w7.heap[w.heap.size]? = some (.cells (s.map bc).toArray 26)) := Lib.hid (by
        rw [HO7.out.block _ (by have := HZ2.out; have := hg1.out; omega) (fun f => f)]; exact HB2.out)
      have HBS7 := Lib.hid (bytes_row HB7.out HSB.out)
      go_upto_region 13 with (at_builtin; go_must ((refine wpList_app2 (v := .slice A7 k7 c7) k8 hk8.out rfl _ _ rfl rfl HW7.out rfl HBS7.out HS.out.symm HO7.out.size (by have h0 := hsum.out; simp only [List.length_append] at h0 ⊢; omega) ?_; intro A8 c8 w8 hown8 hgr8 hbl8; have HW8 := Lib.hid hown8; have HO8 := Lib.hid (HO7.out.grown hgr8 (fun k hk => .inr (HW7.out.lt k hk).1)); clear hown8 hgr8 hbl8)))
      have HP8 : Hid (Pen w8 w1.heap.size (.slice none 0 0) []) := Lib.hid (HP2.out.only HO8.out (fun f => f) (fun _ _ f => f))
      have HB8 : Hid (w8.heap[w.heap.size]? = some (.cells (s.map bc).toArray 26)) := Lib.hid (by
        rw [HO8.out.block _ (by have := HZ2.out; have := hg1.out; omega) (fun f => f)]; exact HB2.out)
      have HA8 := Lib.hid (HA1.out.only HA1.out.lt (HO2.out.trans HO8.out (fun _ _ f => f)) (fun _ _ _ f => f))
      have HT8 := Lib.hid (HT.out.only (HO2.out.trans HO8.out (fun _ _ f => f)) (fun _ _ _ f => f))
      have HO28 : Hid (Only (fun _ => False) w w8) := Lib.hid (HO2.out.trans HO8.out (fun _ _ f => f))
      have HTB := Lib.hid HT.out.2.1
      have HAB := Lib.hid HA1.out.lt
      have hgp2 : Hid (w1.heap.size < w2.heap.size) := Lib.hid (by have := HZ2.out; omega)
      have hg28 : Hid (w1.heap.size < w8.heap.size) := Lib.hid (by have := HZ2.out; have := HO8.out.size; omega)
      clear HP2 HB2 HZ2 HO2 HO5 HO6 HO7 HW5 HW6 HW7 HB5 HT6 HB7 HBS7 HW HOR HO1 HW1 HA1 HT
      generalize w1.heap.size = gp at *
      have hbx : ∀ w', Only (fun i => i = gp) w8 w' → w'.heap[w.heap.size]? = some (.cells (s.map bc).toArray 26) := fun w' h => by
        rw [h.block _ (Array.getElem?_eq_some_iff.1 HB8.out).1 (by have := hg1.out; omega)]; exact HB8.out
      have HF8 : Hid (Fresh w8 gp (.slice none 0 0) [] { w8 with drawn := w8.drawn + 1 }) := Lib.hid ⟨HP8.out.only (S := fun _ => False) ((Only.refl _ w8).drew) (fun f => f) (fun _ _ f => f), (Only.refl _ w8).drew, fun k hk => by cases hk⟩
      have HAd : Hid (Ints { w8 with drawn := w8.drawn + 1 } A zs) := Lib.hid HA8.out
      have HAS : Hid (∀ ad, A = some ad → 0 < zs.length → ¬ PenS gp (.slice none 0 0) ad.block ∧ ad.block < w.heap.size) := Lib.hid (fun ad e hl => by
        have := HAB.out ad e hl
        have := hg1.out
        refine ⟨?_, by omega⟩
        rintro (h | h)
        · omega
        · cases h)
      have HTS : Hid (∀ ad, T = some ad → 0 < t.length → ¬ ad.block = gp) := Lib.hid (fun ad e hl => by
        have := HTB.out ad e hl
        have := hg1.out
        omega)
      have HTS2 : Hid (∀ v l w', Fresh w8 gp v l w' → ∀ ad, T = some ad → 0 < t.length → ¬ PenS gp v ad.block) := Lib.hid (fun v l w' hf ad e hl => by
        have h1 := HTB.out ad e hl
        have h2 := hg1.out
        have h3 := HO28.out.size
        rintro (h | h)
        · omega
        · have := hf.2.2 _ h; omega)
      obtain ⟨all, hall⟩ : ∃ all, Hid (encs zs ++ enc t.length ++ t ++ s = all) := ⟨_, Lib.hid rfl⟩
      have hall600 : Hid (all.length ≤ 600) := Lib.hid (by have h0 := hsum.out; rw [← hall.out, List.length_append]; exact h0)
      have hS : Only (fun i => i = gp) w8 { w8 with drawn := w8.drawn + 1 } := (Only.refl _ w8).drew
      refine wp_region_held (S := fun w' => Only (fun i => i = gp) w8 w') (by kernel_rfl) ?_
      change wpAnyH _ _ _ _ _ 8 #[false, false, false, false, false, false, false, false] _ _
      refine Draw.take 0 45 (.move (.tmp 0)) ?_ rfl rfl rfl (by kernel_rfl) (fun _ _ _ h => h) (by rfl) ?_ hS ?_
      rotate_left
      · (intro w hSw; clear hSw; go_simp; try with_reducible rfl)
      simp only [List.setIfInBounds_toArray, List.set_cons_zero, List.set_cons_succ]
      refine Draw.take 2 47 (.move (.tmp 1)) ?_ rfl rfl rfl (by kernel_rfl) (fun _ _ _ h => h) (by rfl) ?_ hS ?_
      rotate_left
      · (intro w hSw; clear hSw; go_simp; try with_reducible rfl)
      simp only [List.setIfInBounds_toArray, List.set_cons_zero, List.set_cons_succ]
      refine Draw.take 4 49 (.load 26 (.tmp 5)) (.agg (s.map bc).toArray) rfl rfl rfl (by kernel_rfl) (fun _ _ _ h => h) (by rfl) ?_ hS ?_
      · (intro w hSw; skip; exact exec_load26 HS.out rfl (hbx _ hSw); try with_reducible rfl)
      simp only [List.setIfInBounds_toArray, List.set_cons_zero, List.set_cons_succ]
      refine Draw.call 1 46 35 #[(.tmp 7), (.tmp 45)] #[59, 57] rfl rfl rfl (by kernel_rfl) (by rfl) (fun w => by go_simp) (by go_simp; exact pen_nums gp (.slice none 0 0) [] A zs c0 _ HZ.out (by simp only [List.length_nil]; omega) HF8.out.1 HAd.out (fun ad e hl => (HAS.out ad e hl).1)) ?_
      rintro e w9 hpp
      obtain ⟨rfl, v9, hf9⟩ := HF8.out.step hpp
      rw [List.nil_append] at hf9
      have HF9 := Lib.hid hf9
      clear hpp hf9
      refine ⟨_, rfl, HF9.out.2.1, ?_⟩
      simp only [List.setIfInBounds_toArray, List.set_cons_zero, List.set_cons_succ]
      refine Draw.call 3 48 33 #[(.tmp 46), (.tmp 47)] #[50, 22] rfl rfl rfl (by kernel_rfl) (by rfl) (fun w => by go_simp) (by go_simp; exact pen_text gp v9 (encs zs) t T c1 _ (by have h0 := hsum.out; simp only [List.length_append] at h0; omega) HF9.out.1 (HT8.out.only HF9.out.2.1 (fun ad e hl => HTS.out ad e hl)) (HTS2.out _ _ _ HF9.out)) ?_
      rintro e w10 hpp
      obtain ⟨rfl, v10, hf10⟩ := HF9.out.step hpp
      have HF10 := Lib.hid hf10
      clear hpp hf10
      refine ⟨_, rfl, HF10.out.2.1, ?_⟩
      simp only [List.setIfInBounds_toArray, List.set_cons_zero, List.set_cons_succ]
      refine Draw.call 5 50 34 #[(.tmp 48), (.tmp 49)] #[50, 26] rfl rfl rfl (by kernel_rfl) (by rfl) (fun w => by go_simp) (by go_simp; exact pen_sum gp v10 (encs zs ++ enc t.length ++ t) s HS.out HSB.out _ (by have h0 := hsum.out; have h1 := HS.out; omega) HF10.out.1) ?_
      rintro e w11 hpp
      obtain ⟨rfl, v11, hf11⟩ := HF10.out.step hpp
      rw [hall.out] at hf11
      have HF11 := Lib.hid hf11
      clear hpp hf11
      refine ⟨_, rfl, HF11.out.2.1, ?_⟩
      simp only [List.setIfInBounds_toArray, List.set_cons_zero, List.set_cons_succ]
      refine Draw.call 6 51 36 #[(.tmp 50)] #[50] rfl rfl rfl (by kernel_rfl) (by rfl) (fun w => by go_simp) (by go_simp; exact pen_bytes gp v11 all _ (by have h0 := hall600.out; omega) HF11.out.1) ?_
      rintro e w12 ⟨v12, rfl, hown12, ho12⟩
      obtain ⟨A12, c12, hv12, hc12, hm12, hb12, ha12⟩ := hown12.form
      have HO12 := Lib.hid (Only.trans HF11.out.2.1 ho12 (fun _ _ f => f.elim))
      have HB12 := Lib.hid hb12
      have HC12 := Lib.hid hc12
      have HM12 := Lib.hid hm12
      subst hv12
      clear ho12 hb12 hown12 ha12 hc12 hm12
      refine ⟨_, rfl, HO12.out, ?_⟩
      simp only [List.setIfInBounds_toArray, List.set_cons_zero, List.set_cons_succ]
      refine Draw.take 7 10 (.assign (.tmp 51)) ?_ rfl rfl rfl (by kernel_rfl) (fun _ _ _ h => h) (by rfl) ?_ HO12.out ?_
      rotate_left
      · (intro w hSw; clear hSw; go_simp; try with_reducible rfl)
      simp only [List.setIfInBounds_toArray, List.set_cons_zero, List.set_cons_succ]
      refine wpAnyH_done (by kernel_rfl) ?_ _
      have HW8a := HW8.out
      rw [hall.out] at HW8a
      obtain ⟨A8', c8', hv8, _, _, hb8, ha8⟩ := HW8a.form
      have hk8a : k8 = all.length := by rw [hk8.out, ← hall.out]; simp only [List.length_append]
      have hlt8 := HW8a.lt
      injection hv8 with hq1 hq2 hq3
      subst hq1
      subst hq3
      clear hk8 hk7 hk600
      subst hk8a
      have HB8w : Hid (Bytes w12 A8 all) := Lib.hid (hb8.only HO12.out (fun ad e _ h => by
        have h1 := (hlt8 _ (ha8 ad e)).1
        have h2 := hgp2.out
        omega))
      have HA12 := Lib.hid (HA8.out.only HA8.out.lt HO12.out (fun ad e hl => by have := (HAS.out ad e hl).2; have := hg1.out; omega))
      have HT12 := Lib.hid (HT8.out.only HO12.out HTS.out)
      have HBX12 := Lib.hid (hbx w12 HO12.out)
      have HO0 : Hid (Only (fun _ => False) w w12) := Lib.hid (HO28.out.trans HO12.out (fun i hi e => by have := hg1.out; omega))
      clear HW8 HW8a hb8 ha8 hlt8 HA8 HT8 hbx HO12 HO28 HO8 HF8 HF9 HF10 HF11 HAd HB8 HP8 hS hk6
      go_wp2_with fail
      refine (look_eye A12 all c12 HC12.out HM12.out w12.heap.size w12 (Nat.le_refl _) HB12.out.2.1 HB12.out).mono ?_
      rintro e w13 ⟨rfl, hy13, ho13, _⟩
      have HY13 := Lib.hid hy13
      have HO13 := Lib.hid ho13
      clear hy13 ho13
      go_wp2_with fail
      have HYlt : Hid (w12.heap.size < w13.heap.size) := Lib.hid HY13.out.lt
      go_loopw [12] (fun i wr => ∃ j : Nat, i = .int .i64 j ∧ j ≤ zs.length ∧ Eye wr w12.heap.size w12.heap.size (encs (zs.drop j) ++ (enc t.length ++ t ++ s)) 0 ∧ Only (· = w12.heap.size) w13 wr) (fun i _ => zs.length - (intOf i).toNat)
      case atStart => exact ⟨0, rfl, by omega, by simpa [← hall.out] using HY13.out, Only.refl _ _⟩
      case round =>
        obtain ⟨j, rfl, hj, hy, ho⟩ := hrel
        have HYR := Lib.hid hy
        have HOR := Lib.hid ho
        clear hy ho
        by_cases hjz : (j : Int) < (zs.length : Int)
        · have hjn : j < zs.length := by omega
          have hIw := (HA12.out.only HA12.out.lt (Only.trans HO13.out HOR.out (T := fun i => i = w12.heap.size) (fun i hi f => by omega)) (fun _ _ _ f => f))
          obtain ⟨ad, rfl, hcell0⟩ := hIw (by omega)
          have hcell := hcell0 j hjn
          have hmem : zs.getD j 0 ∈ zs := by rw [List.getD_eq_getElem?_getD, List.getElem?_eq_getElem hjn]; exact List.getElem_mem hjn
          have hd : Hid (encs (zs.drop j) = enc (zs.getD j 0).toNat ++ encs (zs.drop (j + 1))) := Lib.hid (by
            unfold encs
            rw [List.drop_eq_getElem_cons hjn, List.flatMap_cons, List.getD_eq_getElem?_getD, List.getElem?_eq_getElem hjn]
            rfl)
          have hz63 := Lib.hid (HZ.out _ hmem)
          generalize zs.getD j 0 = z at *
          clear hcell0 hmem hIw
          have hR : Hid (numR (encs (zs.drop j) ++ (enc t.length ++ t ++ s)) = (z.toNat, (enc z.toNat).length, 0)) := Lib.hid (by
            rw [hd.out, List.append_assoc]; exact numR_enc _ _ (by have := hz63.out; omega))
          have hD : Hid ((encs (zs.drop j) ++ (enc t.length ++ t ++ s)).drop (enc z.toNat).length = encs (zs.drop (j + 1)) ++ (enc t.length ++ t ++ s)) := Lib.hid (by
            rw [hd.out, List.append_assoc]; exact drop_len)
          have hnum := num_any w12.heap.size w12.heap.size _ wr HYR.out
          have HPE : Hid (∀ e w', NumPost wr w12.heap.size w12.heap.size (encs (zs.drop j) ++ (enc t.length ++ t ++ s)) e w' → e = .returned (.int .i64 (z.toNat : Int)) ∧ Eye w' w12.heap.size w12.heap.size (encs (zs.drop (j + 1)) ++ (enc t.length ++ t ++ s)) 0 ∧ Near w12.heap.size wr w') := Lib.hid (by
            rintro e w' ⟨h1, h2, h3⟩
            rw [hR.out] at h1 h2
            simp only at h1 h2
            rw [hD.out] at h2
            exact ⟨h1, h2, h3⟩)
          have HNUM := Lib.hid hnum
          clear hnum
          by_cases hz0 : z < 0
          · have htn : (z.toNat : Int) = 0 := by omega
            go_wp2_with fail
            refine HNUM.out.mono ?_
            intro e w' hp
            obtain ⟨rfl, hy, ho⟩ := HPE.out _ _ hp
            rw [htn]
            have HY1 := Lib.hid hy
            have HO1 := Lib.hid (HOR.out.trans ho (fun _ _ f => f))
            clear hy ho hp
            go_wp2_with fail
            go_roundw
            case rel => exact ⟨j + 1, by go_num, hjn, HY1.out, HO1.out⟩
            case measure => simp [intOf]; omega
          · have htn : (z.toNat : Int) = z := by omega
            go_wp2_with fail
            refine HNUM.out.mono ?_
            intro e w' hp
            obtain ⟨rfl, hy, ho⟩ := HPE.out _ _ hp
            rw [htn]
            have HY1 := Lib.hid hy
            have HO1 := Lib.hid (HOR.out.trans ho (fun _ _ f => f))
            clear hy ho hp
            go_wp2_with fail
            go_roundw
            case rel => exact ⟨j + 1, by go_num, hjn, HY1.out, HO1.out⟩
            case measure => simp [intOf]; omega
        · have hjz : j = zs.length := by omega
          subst hjz
          have hyr := HYR.out
          rw [List.drop_length, show encs [] ++ (enc t.length ++ t ++ s) = enc t.length ++ t ++ s from rfl] at hyr
          have HYE := Lib.hid hyr
          have HO12R : Hid (Only (fun _ => False) w12 wr) := Lib.hid (HO13.out.trans HOR.out (fun i hi e => by omega))
          clear hyr HYR hj
          have htxt : Hid (textR (enc t.length ++ t ++ s) 200 = (t, s, 0)) := Lib.hid (textR_enc t s 200 (by have := HTL.out; omega) (by have := HTL.out; omega))
          have hraw : Hid (rawR s 32 = (s, [], 0)) := Lib.hid (rawR_all s 32 (by rw [HS.out]; rfl))
          have hsv : Hid (sumV s = .agg (s.map bc).toArray) := Lib.hid (by unfold sumV pad32; rw [HS.out]; simp)
          go_upto_region 23 with fail
          have HYd := Lib.hid HYE.out.drew
          have hsA : ∀ w', Only (fun i => i = w12.heap.size) wr w' → (convert 22 9 (.slice A12 all.length c12)).run Try.prog w' = .ok (.string (strB all)) w' := fun w' h =>
            run_str c12 ((HB12.out.only HO12R.out (fun _ _ _ f => f)).only h (fun ad e hl => by have := HB12.out.2.1 ad e hl; omega))
          have hsB : ∀ w', Only (fun i => i = w12.heap.size) wr w' → (convert 22 9 (.slice A8 all.length c8)).run Try.prog w' = .ok (.string (strB all)) w' := fun w' h =>
            run_str c8 ((HB8w.out.only HO12R.out (fun _ _ _ f => f)).only h (fun ad e hl => by have := HB8w.out.2.1 ad e hl; omega))
          have hsT : ∀ w', Only (fun i => i = w12.heap.size) wr w' → (convert 22 9 (.slice T t.length c1)).run Try.prog w' = .ok (.string (strB t)) w' := fun w' h =>
            run_str c1 ((HT12.out.only HO12R.out (fun _ _ _ f => f)).only h (fun ad e hl => by have := HT12.out.2.1 ad e hl; omega))
          have hbx2 : ∀ w', Only (fun i => i = w12.heap.size) wr w' → w'.heap[w.heap.size]? = some (.cells (s.map bc).toArray 26) := fun w' h => by
            have hl := (Array.getElem?_eq_some_iff.1 HBX12.out).1
            rw [h.block _ (by have := HO12R.out.size; omega) (by omega), HO12R.out.block _ hl (fun f => f)]; exact HBX12.out
          have hS : Only (fun i => i = w12.heap.size) wr { wr with drawn := wr.drawn + 1 } := (Only.refl _ wr).drew
          refine wp_region_held (S := fun w' => Only (fun i => i = w12.heap.size) wr w') (by kernel_rfl) ?_
          change wpAnyH _ _ _ _ _ 28 #[false, false, false, false, false, false, false, false, false, false, false, false, false, false, false, false, false, false, false, false, false, false, false, false, false, false, false, false] _ _
          refine Draw.take 0 70 (.move (.tmp 10)) ?_ rfl rfl rfl (by kernel_rfl) (fun _ _ _ h => h) (by rfl) ?_ hS ?_
          rotate_left
          · (intro w hSw; clear hSw; go_simp; try with_reducible rfl)
          simp only [List.setIfInBounds_toArray, List.set_cons_zero, List.set_cons_succ]
          refine Draw.take 2 72 (.move (.tmp 8)) ?_ rfl rfl rfl (by kernel_rfl) (fun _ _ _ h => h) (by rfl) ?_ hS ?_
          rotate_left
          · (intro w hSw; clear hSw; go_simp; try with_reducible rfl)
          simp only [List.setIfInBounds_toArray, List.set_cons_zero, List.set_cons_succ]
          refine Draw.take 1 71 (.convert 22 9 (.tmp 70)) ?_ rfl rfl rfl (by kernel_rfl) (fun _ _ _ h => h) (by rfl) ?_ hS ?_
          rotate_left
          · (intro w hSw; skip; have hq := hsA _ hSw; clear hSw; go_simp; try with_reducible rfl)
          simp only [List.setIfInBounds_toArray, List.set_cons_zero, List.set_cons_succ]
          refine Draw.take 3 73 (.convert 22 9 (.tmp 72)) ?_ rfl rfl rfl (by kernel_rfl) (fun _ _ _ h => h) (by rfl) ?_ hS ?_
          rotate_left
          · (intro w hSw; skip; have hq := hsB _ hSw; clear hSw; go_simp; try with_reducible rfl)
          simp only [List.setIfInBounds_toArray, List.set_cons_zero, List.set_cons_succ]
          refine Draw.take 4 74 (.binOp .eql 9 (.tmp 71) (.tmp 73) 9) ?_ rfl rfl rfl (by kernel_rfl) (fun _ _ _ h => h) (by rfl) ?_ hS ?_
          rotate_left
          · (intro w hSw; clear hSw; go_simp; try with_reducible rfl)
          simp only [List.setIfInBounds_toArray, List.set_cons_zero, List.set_cons_succ]
          refine Draw.take 5 75 (.move (.tmp 74)) ?_ rfl rfl rfl (by kernel_rfl) (fun _ _ _ h => h) (by rfl) ?_ hS ?_
          rotate_left
          · (intro w hSw; clear hSw; go_simp; try with_reducible rfl)
          simp only [List.setIfInBounds_toArray, List.set_cons_zero, List.set_cons_succ]
          refine Draw.take 6 76 (.move (.tmp 11)) ?_ rfl rfl rfl (by kernel_rfl) (fun _ _ _ h => h) (by rfl) ?_ hS ?_
          rotate_left
          · (intro w hSw; clear hSw; go_simp; try with_reducible rfl)
          simp only [List.setIfInBounds_toArray, List.set_cons_zero, List.set_cons_succ]
          refine Draw.take 9 79 (.move (.tmp 1)) ?_ rfl rfl rfl (by kernel_rfl) (fun _ _ _ h => h) (by rfl) ?_ hS ?_
          rotate_left
          · (intro w hSw; clear hSw; go_simp; try with_reducible rfl)
          simp only [List.setIfInBounds_toArray, List.set_cons_zero, List.set_cons_succ]
          refine Draw.take 10 80 (.convert 22 9 (.tmp 79)) ?_ rfl rfl rfl (by kernel_rfl) (fun _ _ _ h => h) (by rfl) ?_ hS ?_
          rotate_left
          · (intro w hSw; skip; have hq := hsT _ hSw; clear hSw; go_simp; try with_reducible rfl)
          simp only [List.setIfInBounds_toArray, List.set_cons_zero, List.set_cons_succ]
          refine Draw.call 7 77 37 #[(.tmp 76), (.const (.int .i64 200))] #[30, 3] rfl rfl rfl (by kernel_rfl) (by rfl) (fun w => by go_simp) (by go_simp; exact text_any w12.heap.size w12.heap.size (enc t.length ++ t ++ s) 200 _ (by have h0 := hsum.out; simp only [List.length_append] at h0 ⊢; omega) HYd.out) ?_
          rw [htxt.out]
          rintro e w15 ⟨v15, rfl, hown15, hy15, ho15⟩
          obtain ⟨A15, c15, hv15, _, _, hb15, _⟩ := hown15.form
          subst hv15
          have hs15 := run_str c15 hb15
          simp only at hy15 hs15 ⊢
          have HY15 := Lib.hid hy15
          have HO15 := Lib.hid (Only.trans hS ho15 (fun _ _ f => f))
          clear hown15 hy15 ho15 hb15
          refine ⟨_, rfl, HO15.out, ?_⟩
          simp only [List.setIfInBounds_toArray, List.set_cons_zero, List.set_cons_succ]
          refine Draw.one 8 78 (.convert 22 9 (.tmp 77)) ?_ _ rfl rfl rfl (by kernel_rfl) (by rfl) ?_ HO15.out ?_
          rotate_left
          · (go_simp; try with_reducible rfl)
          simp only [List.setIfInBounds_toArray, List.set_cons_zero, List.set_cons_succ]
          refine Draw.take 11 81 (.binOp .eql 9 (.tmp 78) (.tmp 80) 9) ?_ rfl rfl rfl (by kernel_rfl) (fun _ _ _ h => h) (by rfl) ?_ HO15.out ?_
          rotate_left
          · (intro w hSw; clear hSw; go_simp; try with_reducible rfl)
          simp only [List.setIfInBounds_toArray, List.set_cons_zero, List.set_cons_succ]
          refine Draw.take 12 82 (.pick (.tmp 75) (.tmp 81) (.const (.bool false))) ?_ rfl rfl rfl (by kernel_rfl) (fun _ _ _ h => h) (by rfl) ?_ HO15.out ?_
          rotate_left
          · (intro w hSw; clear hSw; go_simp; try with_reducible rfl)
          simp only [List.setIfInBounds_toArray, List.set_cons_zero, List.set_cons_succ]
          refine Draw.take 13 83 (.move (.tmp 82)) ?_ rfl rfl rfl (by kernel_rfl) (fun _ _ _ h => h) (by rfl) ?_ HO15.out ?_
          rotate_left
          · (intro w hSw; clear hSw; go_simp; try with_reducible rfl)
          simp only [List.setIfInBounds_toArray, List.set_cons_zero, List.set_cons_succ]
          refine Draw.take 14 84 (.move (.tmp 11)) ?_ rfl rfl rfl (by kernel_rfl) (fun _ _ _ h => h) (by rfl) ?_ HO15.out ?_
          rotate_left
          · (intro w hSw; clear hSw; go_simp; try with_reducible rfl)
          simp only [List.setIfInBounds_toArray, List.set_cons_zero, List.set_cons_succ]
          refine Draw.take 16 86 (.load 26 (.tmp 5)) (.agg (s.map bc).toArray) rfl rfl rfl (by kernel_rfl) (fun _ _ _ h => h) (by rfl) ?_ HO15.out ?_
          · (intro w hSw; skip; exact exec_load26 HS.out rfl (hbx2 _ hSw); try with_reducible rfl)
          simp only [List.setIfInBounds_toArray, List.set_cons_zero, List.set_cons_succ]
          refine Draw.call 15 85 38 #[(.tmp 84)] #[30] rfl rfl rfl (by kernel_rfl) (by rfl) (fun w => by go_simp) (by go_simp; exact sum_any w12.heap.size w12.heap.size s _ (by have := HO15.out.size; have := HO12R.out.size; omega) (by have := HS.out; omega) HY15.out) ?_
          rw [hraw.out]
          rintro e w16 ⟨rfl, hy16, ho16⟩
          simp only at hy16 ⊢
          rw [hsv.out]
          have HY16 := Lib.hid hy16
          have HO16 := Lib.hid (Only.trans HO15.out ho16 (fun _ _ f => f))
          clear hy16 ho16
          refine ⟨_, rfl, HO16.out, ?_⟩
          simp only [List.setIfInBounds_toArray, List.set_cons_zero, List.set_cons_succ]
          refine Draw.take 17 87 (.binOp .eql 26 (.tmp 85) (.tmp 86) 26) (.bool true) rfl rfl rfl (by kernel_rfl) (fun _ _ _ h => h) (by rfl) ?_ HO16.out ?_
          · (intro w hSw; clear hSw; exact exec_eql26_self HS.out rfl rfl w; try with_reducible rfl)
          simp only [List.setIfInBounds_toArray, List.set_cons_zero, List.set_cons_succ]
          refine Draw.take 18 88 (.pick (.tmp 83) (.tmp 87) (.const (.bool false))) ?_ rfl rfl rfl (by kernel_rfl) (fun _ _ _ h => h) (by rfl) ?_ HO16.out ?_
          rotate_left
          · (intro w hSw; clear hSw; go_simp; try with_reducible rfl)
          simp only [List.setIfInBounds_toArray, List.set_cons_zero, List.set_cons_succ]
          refine Draw.take 19 89 (.move (.tmp 88)) ?_ rfl rfl rfl (by kernel_rfl) (fun _ _ _ h => h) (by rfl) ?_ HO16.out ?_
          rotate_left
          · (intro w hSw; clear hSw; go_simp; try with_reducible rfl)
          simp only [List.setIfInBounds_toArray, List.set_cons_zero, List.set_cons_succ]
          refine Draw.take 20 90 (.move (.tmp 11)) ?_ rfl rfl rfl (by kernel_rfl) (fun _ _ _ h => h) (by rfl) ?_ HO16.out ?_
          rotate_left
          · (intro w hSw; clear hSw; go_simp; try with_reducible rfl)
          simp only [List.setIfInBounds_toArray, List.set_cons_zero, List.set_cons_succ]
          refine Draw.call 21 91 30 #[(.tmp 90)] #[30] rfl rfl rfl (by kernel_rfl) (by rfl) (fun w => by go_simp) (by go_simp; exact done_any w12.heap.size w12.heap.size [] 0 _ HY16.out) ?_
          rintro e w17 ⟨rfl, hy17, ho17⟩
          have HO17 := Lib.hid (Only.trans HO16.out ho17 (fun _ _ f => f))
          clear hy17 ho17
          refine ⟨_, rfl, HO17.out, ?_⟩
          simp only [List.setIfInBounds_toArray, List.set_cons_zero, List.set_cons_succ]
          refine Draw.take 22 92 (.binOp .eql 34 (.tmp 91) (.const (.int .i64 0)) 34) ?_ rfl rfl rfl (by kernel_rfl) (fun _ _ _ h => h) (by rfl) ?_ HO17.out ?_
          rotate_left
          · (intro w hSw; clear hSw; go_simp; try with_reducible rfl)
          simp only [List.setIfInBounds_toArray, List.set_cons_zero, List.set_cons_succ]
          refine Draw.take 23 93 (.pick (.tmp 89) (.tmp 92) (.const (.bool false))) ?_ rfl rfl rfl (by kernel_rfl) (fun _ _ _ h => h) (by rfl) ?_ HO17.out ?_
          rotate_left
          · (intro w hSw; clear hSw; go_simp; try with_reducible rfl)
          simp only [List.setIfInBounds_toArray, List.set_cons_zero, List.set_cons_succ]
          refine Draw.take 24 94 (.move (.tmp 93)) ?_ rfl rfl rfl (by kernel_rfl) (fun _ _ _ h => h) (by rfl) ?_ HO17.out ?_
          rotate_left
          · (intro w hSw; clear hSw; go_simp; try with_reducible rfl)
          simp only [List.setIfInBounds_toArray, List.set_cons_zero, List.set_cons_succ]
          refine Draw.call 25 95 23 #[] #[] rfl rfl rfl (by kernel_rfl) (by rfl) (fun w => by go_simp) (by go_simp; exact awake1 _) ?_
          rintro e w18 ⟨rfl, ho18⟩
          have HO18 := Lib.hid (Only.trans HO17.out ho18 (fun _ _ f => f.elim))
          clear ho18
          refine ⟨_, rfl, HO18.out, ?_⟩
          simp only [List.setIfInBounds_toArray, List.set_cons_zero, List.set_cons_succ]
          refine Draw.take 26 96 (.pick (.tmp 94) (.tmp 95) (.const (.bool false))) ?_ rfl rfl rfl (by kernel_rfl) (fun _ _ _ h => h) (by rfl) ?_ HO18.out ?_
          rotate_left
          · (intro w hSw; clear hSw; go_simp; try with_reducible rfl)
          simp only [List.setIfInBounds_toArray, List.set_cons_zero, List.set_cons_succ]
          refine Draw.take 27 6 (.assign (.tmp 96)) ?_ rfl rfl rfl (by kernel_rfl) (fun _ _ _ h => h) (by rfl) ?_ HO18.out ?_
          rotate_left
          · (intro w hSw; clear hSw; go_simp; try with_reducible rfl)
          simp only [List.setIfInBounds_toArray, List.set_cons_zero, List.set_cons_succ]
          refine wpAnyH_done (by kernel_rfl) ?_ _
          go_wp2
          go_ret
          exact ⟨rfl, (HO0.out.trans HO12R.out (fun _ _ f => f)).trans HO18.out (fun i hi e => by have := HO0.out.size; omega)⟩
end Go.Proofs.Ytcbcjgdhbopceaa
