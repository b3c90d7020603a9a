/- WireNobody: a nil pen and a nil eye; the walk. -/
import Derived.Test.YtcbcjgdhbopceaaNums
import Derived.Test.YtcbcjgdhbopceaaPen2
namespace Go.Proofs.Ytcbcjgdhbopceaa
open Go.RowKit

/-- A row of integers that is read. -/
def Ints (w : World) (A : Option Addr) (zs : List Int) : Prop :=
  0 < zs.length → ∃ ad, A = some ad ∧ ∀ i, i < zs.length → w.cell? (ad.add i) = some (.int .i64 (zs.getD i 0))

set_option maxRecDepth 100000 in
theorem nums_nil (A : Option Addr) (zs : List Int) (c : Nat) (hc : zs.length ≤ maxLen) (w : World) (h : Ints w A zs) :
    Calls Try.prog 35 #[.pointer none, .slice A zs.length c] w fun e w' => e = .returned (.pointer none) ∧ w = w' := by
  have HH := Lib.hid h
  unfold maxLen at hc
  clear h
  go_enter Try.func35, Try.ntmps35
  go_wp2_with fail
  go_loop [9] (fun i => ∃ j : Nat, i = .int .i64 j) (fun i => zs.length - (intOf i).toNat)
  case atStart => exact ⟨0, rfl⟩
  case round =>
    obtain ⟨j, rfl⟩ := hrel
    by_cases hj : (j : Int) < (zs.length : Int)
    · obtain ⟨ad, rfl, hcell0⟩ := HH.out (by omega)
      have hcell := hcell0 j (by omega)
      go_wp2_with fail
      refine (pen_num_nil _ _).mono ?_
      rintro e w' ⟨rfl, rfl⟩
      go_wp2_with fail
      go_round
      case rel => exact ⟨j + 1, by go_num⟩
      case measure => simp [intOf]; omega
    · go_wp2_with fail
      go_ret
      exact ⟨rfl, rfl⟩

theorem ints_two (w1 : World) (n : Int) : Ints (w1.alloc (.cells #[.int .i64 n, .int .i64 n] 3)) (some ⟨w1.heap.size, 0, none⟩) [n, n] := by
  refine fun _ => ⟨_, rfl, fun i hi => ?_⟩
  have h2 : i < 2 := hi
  have h3 : i = 0 ∨ i = 1 := by omega
  have h0 := heap_alloc_new w1 (.cells #[.int .i64 n, .int .i64 n] 3)
  generalize w1.alloc (.cells #[.int .i64 n, .int .i64 n] 3) = w2 at h0 ⊢
  rcases h3 with rfl | rfl <;> simp [World.cell?, Addr.add, h0]

set_option maxRecDepth 100000 in
theorem nobody_walk (A : Option Addr) (l0 : List Nat) (c : Nat) (hc0 : l0.length ≤ c) (hm : c ≤ maxLen) (n : Int) (w : World) (hb0 : Bytes w A l0) :
    Calls Try.prog 8 #[.slice A l0.length c, .int .i64 n] w fun e w' => e = .returned (.bool true) ∧ Only (fun _ => False) w w' := by
  have HM := Lib.hid hm
  have HB0 := Lib.hid hb0
  clear hm hb0
  go_enter Try.func8, Try.ntmps8
  go_wp2_with fail
  refine (cut_take A l0 c hc0 HM.out _).mono ?_
  rintro e w' ⟨rfl, rfl⟩
  have hlen : (l0.take 200).length ≤ 200 := by rw [List.length_take]; omega
  have hc : (l0.take 200).length ≤ c := by rw [List.length_take]; omega
  have HB := Lib.hid (HB0.out.take 200)
  generalize l0.take 200 = l at *
  clear HB0 hc0
  go_wp2_with fail
  refine (fail_nil _ _).mono ?_
  rintro e w' ⟨rfl, rfl⟩
  go_wp2_with fail
  refine (pen_num_nil _ _).mono ?_
  rintro e w' ⟨rfl, rfl⟩
  go_wp2_with fail
  refine (pen_text_nil _ A l.length c rfl _).mono ?_
  rintro e w' ⟨rfl, rfl⟩
  go_wp2_with fail
  refine (pen_sum_nil _ _).mono ?_
  rintro e w1 ⟨rfl, ho1⟩
  have HO1 := Lib.hid ho1
  clear ho1
  go_wp2_with fail
  have hin := ints_two w1 n
  have HO2 := Lib.hid (HO1.out.alloc (.cells #[.int .i64 n, .int .i64 n] 3))
  generalize hw2 : w1.alloc (.cells #[.int .i64 n, .int .i64 n] 3) = w2 at *
  clear hw2
  refine (nums_nil _ [n, n] 2 (by simp [maxLen]) _ hin).mono ?_
  rintro e w' ⟨rfl, rfl⟩
  clear hin
  generalize w1.heap.size = g1
  go_wp2_with fail
  refine (pen_bytes_nil _).mono ?_
  rintro e w' ⟨rfl, rfl⟩
  go_wp2_with fail
  refine (err_nil _).mono ?_
  rintro e w' ⟨rfl, rfl⟩
  go_wp2_with fail
  refine (num_nil _).mono ?_
  rintro e w' ⟨rfl, rfl⟩
  go_wp2_with fail
  refine (upto_nil _ _).mono ?_
  rintro e w' ⟨rfl, rfl⟩
  go_wp2_with fail
  refine (raw_nil _ _).mono ?_
  rintro e w' ⟨rfl, rfl⟩
  go_wp2_with fail
  refine (text_nil _ _).mono ?_
  rintro e w' ⟨rfl, rfl⟩
  go_wp2_with fail
  refine (done_nil _).mono ?_
  rintro e w' ⟨rfl, rfl⟩
  go_wp2_with fail
  have HB2 := Lib.hid (HB.out.only HO2.out (fun _ _ _ f => f))
  refine (look_eye A l c hc HM.out w2.heap.size w2 (Nat.le_refl _) HB2.out.2.1 HB2.out).mono ?_
  rintro e w3 ⟨rfl, hy3, ho3, hs3⟩
  have HY3 := Lib.hid hy3
  have HZ3 := Lib.hid hs3
  have HO3 := Lib.hid (HO2.out.trans ho3 (fun _ _ f => f))
  clear hy3 ho3 hs3
  have hL : l.length ≤ 140737488355328 := by omega
  go_wp2_with fail
  refine (raw_any w2.heap.size w2.heap.size l n w3 hL HY3.out).mono ?_
  rintro e w4 ⟨v4, rfl, hown, hz4, hn4⟩
  have HS2 : Hid (w.heap.size ≤ w2.heap.size) := Lib.hid HO2.out.size
  have HO4 := Lib.hid (HO3.out.trans hn4 (fun i hi e => by have := HS2.out; omega))
  clear hn4 hL
  by_cases hr : 0 ≤ n ∧ n ≤ (l.length : Int)
  case neg =>
    have hR : rawR l n = ([], l, 2) := if_neg hr
    rw [hR] at hown hz4
    obtain ⟨A4, c4, hv4, _⟩ := hown.form
    subst hv4
    simp only [List.length_nil] at hown ⊢
    have HZ4 := Lib.hid hz4
    clear hown hz4 hR
    by_cases hn0 : n < 0
    · clear hr
      go_wp2_with fail
      refine (eye_err HZ4.out).mono ?_
      rintro e w' ⟨rfl, rfl⟩
      go_wp2_with fail
      refine (awake1 _).mono ?_
      rintro e w' ⟨rfl, hoa⟩
      have HOA := Lib.hid hoa
      clear hoa
      go_wp2
      go_ret
      exact ⟨rfl, HO4.out.trans HOA.out (fun _ _ f => f)⟩
    · have hnl : (l.length : Int) < n := by omega
      clear hr
      go_wp2_with fail
      refine (eye_err HZ4.out).mono ?_
      rintro e w' ⟨rfl, rfl⟩
      go_wp2_with fail
      refine (awake1 _).mono ?_
      rintro e w' ⟨rfl, hoa⟩
      have HOA := Lib.hid hoa
      clear hoa
      go_wp2
      go_ret
      exact ⟨rfl, HO4.out.trans HOA.out (fun _ _ f => f)⟩
  case pos =>
    obtain ⟨k, rfl⟩ := Int.eq_ofNat_of_zero_le hr.1
    have hk : k ≤ l.length := by omega
    have hR : rawR l (k : Int) = (l.take k, l.drop k, 0) := by rw [rawR, if_pos hr, Int.toNat_natCast]
    rw [hR] at hown hz4
    obtain ⟨A4, c4, hv4, _, _, hb4, hA4⟩ := hown.form
    have hkl : (l.take k).length = k := by rw [List.length_take]; omega
    have hlt := hown.lt
    simp only [hkl] at hv4
    have HZ3' := HZ3.out
    have hs0 : ∀ w', Only (fun i => i = w2.heap.size) w4 w' → (convert 22 9 (.slice A4 k c4)).run Try.prog w' = .ok (.string (strB (l.take k))) w' := by
      intro w' h
      have hq := run_str c4 (hb4.only h (fun ad e _ => by have := hlt _ (hA4 ad e); omega))
      rwa [hkl] at hq
    have hs1 : ∀ w', Only (fun i => i = w2.heap.size) w4 w' → (convert 22 9 (.slice A k c)).run Try.prog w' = .ok (.string (strB (l.take k))) w' := by
      intro w' h
      have hq := run_str c (((HB.out.only HO4.out (fun _ _ _ f => f)).take k).only h (fun ad e hp => by have := HB.out.2.1 ad e (by simp only [List.length_take] at hp; omega); have := HS2.out; omega))
      rwa [hkl] at hq
    subst hv4
    have HZ4 := Lib.hid hz4
    have hnl : ¬ (l.length : Int) < (k : Int) := by omega
    have hn0 : ¬ (k : Int) < 0 := by omega
    clear hr hR hown hz4 hb4 hA4 hlt HZ3'
    go_upto_region 11 with fail
    clear hnl hn0
    have HSL := Lib.hid (run_upto A l.length c k (by omega))
    have HZd := Lib.hid HZ4.out.drew
    have hS : Only (fun i => i = w2.heap.size) w4 { w4 with drawn := w4.drawn + 1 } := (Only.refl _ w4).drew
    obtain ⟨x, HX, HBB⟩ : ∃ x : Int, Hid ((if (0 : Int) = 0 ∧ 0 < (l.drop k).length then (3 : Int) else 0) = x) ∧ Hid (((x == 0) == ((k : Int) == (l.length : Int))) = true) := by
      refine ⟨_, Lib.hid rfl, Lib.hid ?_⟩
      rw [List.length_drop]
      by_cases hke : k = l.length
      · subst hke; simp
      · have h1 : 0 < l.length - k := by omega
        have h2 : ¬ (k : Int) = (l.length : Int) := by omega
        simp [h1, h2]
    refine wp_region_held (S := fun w' => Only (fun i => i = w2.heap.size) w4 w') (by kernel_rfl) ?_
    change wpAnyH _ _ _ _ _ 21 #[false, false, false, false, false, false, false, false, false, false, false, false, false, false, false, false, false, false, false, false, false] _ _
    refine Draw.take 0 92 (.move (.tmp 8)) ?_ rfl rfl rfl (by kernel_rfl) (fun _ _ _ h => h) (by rfl) ?_ hS ?_
    rotate_left
    · (intro w hSw; clear hSw; go_simp; try with_reducible rfl)
    simp only [List.setIfInBounds_toArray, List.set_cons_zero, List.set_cons_succ]
    refine Draw.take 2 94 (.move (.tmp 0)) ?_ rfl rfl rfl (by kernel_rfl) (fun _ _ _ h => h) (by rfl) ?_ hS ?_
    rotate_left
    · (intro w hSw; clear hSw; go_simp; try with_reducible rfl)
    simp only [List.setIfInBounds_toArray, List.set_cons_zero, List.set_cons_succ]
    refine Draw.take 3 95 (.move (.tmp 1)) ?_ rfl rfl rfl (by kernel_rfl) (fun _ _ _ h => h) (by rfl) ?_ hS ?_
    rotate_left
    · (intro w hSw; clear hSw; go_simp; try with_reducible rfl)
    simp only [List.setIfInBounds_toArray, List.set_cons_zero, List.set_cons_succ]
    refine Draw.take 4 96 (.slice 22 (.tmp 94) none (some (.tmp 95)) none) ?_ rfl rfl rfl (by kernel_rfl) (fun _ _ _ h => h) (by rfl) ?_ hS ?_
    rotate_left
    · (intro w hSw; clear hSw; have hq := HSL.out; go_simp; try with_reducible rfl)
    simp only [List.setIfInBounds_toArray, List.set_cons_zero, List.set_cons_succ]
    refine Draw.take 1 93 (.convert 22 9 (.tmp 92)) ?_ rfl rfl rfl (by kernel_rfl) (fun _ _ _ h => h) (by rfl) ?_ hS ?_
    rotate_left
    · (intro w hSw; skip; have hq := hs0 _ hSw; clear hSw; go_simp; try with_reducible rfl)
    simp only [List.setIfInBounds_toArray, List.set_cons_zero, List.set_cons_succ]
    refine Draw.take 5 97 (.convert 22 9 (.tmp 96)) ?_ rfl rfl rfl (by kernel_rfl) (fun _ _ _ h => h) (by rfl) ?_ hS ?_
    rotate_left
    · (intro w hSw; skip; have hq := hs1 _ hSw; clear hSw; go_simp; try with_reducible rfl)
    simp only [List.setIfInBounds_toArray, List.set_cons_zero, List.set_cons_succ]
    refine Draw.take 6 98 (.binOp .eql 9 (.tmp 93) (.tmp 97) 9) ?_ rfl rfl rfl (by kernel_rfl) (fun _ _ _ h => h) (by rfl) ?_ hS ?_
    rotate_left
    · (intro w hSw; clear hSw; go_simp; try with_reducible rfl)
    simp only [List.setIfInBounds_toArray, List.set_cons_zero, List.set_cons_succ]
    refine Draw.take 7 99 (.move (.tmp 98)) ?_ rfl rfl rfl (by kernel_rfl) (fun _ _ _ h => h) (by rfl) ?_ hS ?_
    rotate_left
    · (intro w hSw; clear hSw; go_simp; try with_reducible rfl)
    simp only [List.setIfInBounds_toArray, List.set_cons_zero, List.set_cons_succ]
    refine Draw.take 8 100 (.move (.tmp 7)) ?_ rfl rfl rfl (by kernel_rfl) (fun _ _ _ h => h) (by rfl) ?_ hS ?_
    rotate_left
    · (intro w hSw; clear hSw; go_simp; try with_reducible rfl)
    simp only [List.setIfInBounds_toArray, List.set_cons_zero, List.set_cons_succ]
    refine Draw.take 11 103 (.move (.tmp 1)) ?_ rfl rfl rfl (by kernel_rfl) (fun _ _ _ h => h) (by rfl) ?_ hS ?_
    rotate_left
    · (intro w hSw; clear hSw; go_simp; try with_reducible rfl)
    simp only [List.setIfInBounds_toArray, List.set_cons_zero, List.set_cons_succ]
    refine Draw.take 12 104 (.move (.tmp 0)) ?_ rfl rfl rfl (by kernel_rfl) (fun _ _ _ h => h) (by rfl) ?_ hS ?_
    rotate_left
    · (intro w hSw; clear hSw; go_simp; try with_reducible rfl)
    simp only [List.setIfInBounds_toArray, List.set_cons_zero, List.set_cons_succ]
    refine Draw.take 13 105 (.call { callee := .builtin .len, args := #[(.tmp 104)], argTypes := #[22] }) ?_ rfl rfl rfl (by kernel_rfl) (fun _ _ _ h => h) (by rfl) ?_ hS ?_
    rotate_left
    · (intro w hSw; clear hSw; go_simp; try with_reducible rfl)
    simp only [List.setIfInBounds_toArray, List.set_cons_zero, List.set_cons_succ]
    refine Draw.take 14 106 (.binOp .eql 3 (.tmp 103) (.tmp 105) 3) (.bool ((k : Int) == (l.length : Int))) rfl rfl rfl (by kernel_rfl) (fun _ _ _ h => h) (by rfl) ?_ hS ?_
    · (intro w hSw; clear hSw; go_simp; try with_reducible rfl)
    simp only [List.setIfInBounds_toArray, List.set_cons_zero, List.set_cons_succ]
    refine Draw.call 9 101 30 #[(.tmp 100)] #[30] rfl rfl rfl (by kernel_rfl) (by rfl) (fun w => by go_simp) (by go_simp; exact done_any w2.heap.size w2.heap.size (l.drop k) 0 _ HZd.out) ?_
    rintro e w5 ⟨rfl, hz5, hn5⟩
    have HO5 := Lib.hid (Only.trans hS hn5 (fun _ _ f => f))
    rw [HX.out]
    clear hn5 hz5
    refine ⟨_, rfl, HO5.out, ?_⟩
    simp only [List.setIfInBounds_toArray, List.set_cons_zero, List.set_cons_succ]
    refine Draw.take 10 102 (.binOp .eql 34 (.tmp 101) (.const (.int .i64 0)) 34) ?_ rfl rfl rfl (by kernel_rfl) (fun _ _ _ h => h) (by rfl) ?_ HO5.out ?_
    rotate_left
    · (intro w hSw; clear hSw; go_simp; try with_reducible rfl)
    simp only [List.setIfInBounds_toArray, List.set_cons_zero, List.set_cons_succ]
    refine Draw.take 15 107 (.binOp .eql 4 (.tmp 102) (.tmp 106) 4) (.bool true) rfl rfl rfl (by kernel_rfl) (fun _ _ _ h => h) (by rfl) ?_ HO5.out ?_
    · (intro w hSw; clear hSw; have hq := HBB.out; go_simp; try with_reducible rfl)
    simp only [List.setIfInBounds_toArray, List.set_cons_zero, List.set_cons_succ]
    refine Draw.take 16 108 (.pick (.tmp 99) (.tmp 107) (.const (.bool false))) ?_ rfl rfl rfl (by kernel_rfl) (fun _ _ _ h => h) (by rfl) ?_ HO5.out ?_
    rotate_left
    · (intro w hSw; clear hSw; go_simp; try with_reducible rfl)
    simp only [List.setIfInBounds_toArray, List.set_cons_zero, List.set_cons_succ]
    refine Draw.take 17 109 (.move (.tmp 108)) ?_ rfl rfl rfl (by kernel_rfl) (fun _ _ _ h => h) (by rfl) ?_ HO5.out ?_
    rotate_left
    · (intro w hSw; clear hSw; go_simp; try with_reducible rfl)
    simp only [List.setIfInBounds_toArray, List.set_cons_zero, List.set_cons_succ]
    refine Draw.call 18 110 23 #[] #[] rfl rfl rfl (by kernel_rfl) (by rfl) (fun w => by go_simp) (by go_simp; exact awake1 _) ?_
    rintro e w7 ⟨rfl, ho7⟩
    have HO7 := Lib.hid (Only.trans HO5.out ho7 (fun _ _ f => f.elim))
    clear ho7
    refine ⟨_, rfl, HO7.out, ?_⟩
    simp only [List.setIfInBounds_toArray, List.set_cons_zero, List.set_cons_succ]
    refine Draw.take 19 111 (.pick (.tmp 109) (.tmp 110) (.const (.bool false))) ?_ rfl rfl rfl (by kernel_rfl) (fun _ _ _ h => h) (by rfl) ?_ HO7.out ?_
    rotate_left
    · (intro w hSw; clear hSw; go_simp; try with_reducible rfl)
    simp only [List.setIfInBounds_toArray, List.set_cons_zero, List.set_cons_succ]
    refine Draw.take 20 4 (.assign (.tmp 111)) ?_ rfl rfl rfl (by kernel_rfl) (fun _ _ _ h => h) (by rfl) ?_ HO7.out ?_
    rotate_left
    · (intro w hSw; clear hSw; go_simp; try with_reducible rfl)
    simp only [List.setIfInBounds_toArray, List.set_cons_zero, List.set_cons_succ]
    refine wpAnyH_done (by kernel_rfl) ?_ _
    go_wp2
    go_ret
    exact ⟨rfl, HO4.out.trans HO7.out (fun i hi e => by have := HS2.out; omega)⟩
end Go.Proofs.Ytcbcjgdhbopceaa
