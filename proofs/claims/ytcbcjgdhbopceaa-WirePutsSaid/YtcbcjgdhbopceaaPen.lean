/- Contracts of package wire's pen: Num, Nums, Text, Sum, Bytes; of the statements' own 'number'. -/
import Derived.Test.YtcbcjgdhbopceaaWire4
import Derived.Test.YtcbcjgdhbopceaaEnc
namespace Go.Proofs.Ytcbcjgdhbopceaa
open Go.RowKit

/-- A pen: its block holds a row of bytes of the call's own. -/
def Pen (w : World) (g : Nat) (v : Value) (l : List Nat) : Prop := w.heap[g]? = some (.cells #[v] 59) ∧ OwnB w 0 v l
/-- What a pen's call turns: the pen, its row, and what is new. -/
def PenS (g : Nat) (v : Value) : Nat → Prop := fun i => i = g ∨ v.ownBlock = some i

/-- What a pen's call leaves: more bytes behind. -/
def PenPost (w : World) (g : Nat) (v : Value) (l : List Nat) (e : Ending) (w' : World) : Prop :=
  e = .returned (.pointer (some ⟨g, 0, none⟩)) ∧ ∃ v', Pen w' g v' l ∧ Only (PenS g v) w w' ∧ (v'.ownBlock = v.ownBlock ∨ ∃ k, v'.ownBlock = some k ∧ w.heap.size ≤ k)

theorem Pen.lt {w : World} {g : Nat} {v : Value} {l : List Nat} (h : Pen w g v l) : g < w.heap.size := (Array.getElem?_eq_some_iff.1 h.1).1
theorem Pen.c0 {w : World} {g : Nat} {v : Value} {l : List Nat} (h : Pen w g v l) : w.cell? ⟨g, 0, none⟩ = some v := by simp [World.cell?, h.1]
theorem Pen.f0 {w : World} {g : Nat} {v : Value} {l : List Nat} (h : Pen w g v l) (i : Nat) : w.frozen? ⟨g, i, none⟩ = false := by simp [World.frozen?, h.1]
theorem Pen.ne {w : World} {g : Nat} {v : Value} {l : List Nat} (h : Pen w g v l) : v.ownBlock ≠ some g := h.2.ne_block h.1 (by decide)
theorem Pen.only {S : Nat → Prop} {w w' : World} {g : Nat} {v : Value} {l : List Nat} (h : Pen w g v l) (ho : Only S w w') (hg : ¬ S g) (hv : ∀ k, v.ownBlock = some k → ¬ S k) : Pen w' g v l :=
  ⟨(ho.block g h.lt hg).trans h.1, h.2.only ho hv⟩

/-- The store behind an append: the pen holds the new row. -/
theorem pen_step {w0 w w1 : World} {g : Nat} {v0 v v1 : Value} {l m : List Nat} (hp : Pen w g v l) (hS : Only (PenS g v0) w0 w) (hv : v.ownBlock = v0.ownBlock ∨ ∃ k, v.ownBlock = some k ∧ w0.heap.size ≤ k)
    (wa : World) (ha : Only (fun _ => False) w wa) (h1 : OwnB w1 0 v1 (l ++ m)) (hg : wa.grownBy w1 v.ownBlock) (hb : v1.ownBlock = v.ownBlock ∨ v1.ownBlock = some wa.heap.size) :
    Pen (w1.setCell ⟨g, 0, none⟩ v1) g v1 (l ++ m) ∧ Only (PenS g v0) w0 (w1.setCell ⟨g, 0, none⟩ v1) ∧ (v1.ownBlock = v0.ownBlock ∨ ∃ k, v1.ownBlock = some k ∧ w0.heap.size ≤ k) := by
  have hlt := hp.lt
  have h01 : w0.heap.size ≤ w.heap.size := hS.size
  have h12 : w.heap.size ≤ wa.heap.size := ha.size
  have hv1 : v1.ownBlock = v0.ownBlock ∨ ∃ k, v1.ownBlock = some k ∧ w0.heap.size ≤ k := by
    rcases hb with hb | hb
    · rw [hb]; exact hv
    · exact .inr ⟨_, hb, by omega⟩
  have ho1 : Only (fun i => v.ownBlock = some i) w w1 := (ha.mono (fun _ _ f => f.elim)).grown hg (fun k hk => .inl hk)
  have hg1 : w1.heap[g]? = some (.cells #[v] 59) := (ho1.block g hlt hp.ne).trans hp.1
  have hne1 : v1.ownBlock ≠ some g := h1.ne_block hg1 (by decide)
  refine ⟨⟨by simp [World.setCell, Array.getElem?_modify, hg1], h1.only (near_set w1 g 0 v1) (fun k hk e => hne1 (by rw [hk, e]))⟩, ?_, hv1⟩
  refine Only.setCell ?_ (.inl (.inl rfl)) v1
  refine hS.trans ho1 (fun i hi hvi => ?_)
  rcases hv with hv | ⟨k, hk, hk2⟩
  · exact .inr (by rw [← hv]; exact hvi)
  · rw [hk] at hvi; injection hvi with hvi; omega

theorem pen_after {wr wa w2 : World} {g : Nat} {v1 : Value} {l1 : List Nat} (hp : Pen wr g v1 l1) (ha : Only (fun _ => False) wr wa) (hgr : wa.grownBy w2 v1.ownBlock) :
    w2.cell? ⟨g, 0, none⟩ = some v1 ∧ w2.frozen? ⟨g, 0, none⟩ = false := by
  have ho2 : Only (fun i => v1.ownBlock = some i) wr w2 := (ha.mono (fun _ _ f => f.elim)).grown hgr (fun k hk => .inl hk)
  have hg2 : w2.heap[g]? = some (.cells #[v1] 59) := (ho2.block g hp.lt hp.ne).trans hp.1
  exact ⟨by simp [World.cell?, hg2], by simp [World.frozen?, hg2]⟩

theorem pen_num_nil (n : Int) (w : World) :
    Calls Try.prog 32 #[.pointer none, .int .i64 n] w fun e w' => e = .returned (.pointer none) ∧ w = w' := by
  go_enter Try.func32, Try.ntmps32
  go_wp2
  go_ret
  exact ⟨rfl, rfl⟩

theorem bytes_one (w : World) (x : Nat) (hx : x < 256) : Bytes (w.alloc (.cells #[.int .u8 (x : Int)] 5)) (some ⟨w.heap.size, 0, none⟩) [x] :=
  ⟨by simpa using hx, fun ad e => by obtain rfl := Option.some.inj e; simp, fun _ => ⟨_, rfl, fun i hi => by
    obtain rfl : i = 0 := by simp at hi; omega
    show (w.alloc _).cell? ⟨w.heap.size, 0, none⟩ = _
    rw [cell_of_row _ _ _ _ _ _ (heap_alloc_new w _)]; rfl⟩⟩

theorem bytes_one' (w : World) (z : Int) (x : Nat) (hz : z = x) (hx : x < 256) : Bytes (w.alloc (.cells #[.int .u8 z] 5)) (some ⟨w.heap.size, 0, none⟩) [x] := by
  subst hz; exact bytes_one w x hx

/-- The relation of Num's loop: what is written already, and what is left. -/
def NumRel (w : World) (g : Nat) (v : Value) (all : List Nat) (x : Value) (wr : World) : Prop :=
  ∃ (m : Nat) (v1 : Value) (l1 : List Nat), x = .int .u64 (m : Int) ∧ m < 9223372036854775808 ∧ Pen wr g v1 l1 ∧ l1 ++ enc m = all ∧ Only (PenS g v) w wr ∧ (v1.ownBlock = v.ownBlock ∨ ∃ k, v1.ownBlock = some k ∧ w.heap.size ≤ k)

theorem u8_or128_wrap (m : Nat) : bits .or .u8 ((m : Int) % 256) 128 = ((m % 128 + 128 : Nat) : Int) := by
  have h1 : (m : Int) % 256 = ((m % 256 : Nat) : Int) := by omega
  rw [h1]
  have h2 := u8_or_nat (m % 256) 128 (by omega) (by omega)
  have h3 := or128_nat (m % 256) (by omega)
  rw [show ((128 : Nat) : Int) = 128 from rfl] at h2
  rw [h2, h3]
  omega

set_option maxRecDepth 100000 in
theorem pen_num (g : Nat) (v : Value) (l : List Nat) (z : Int) (hz : z < 9223372036854775808) (w : World) (hl : l.length + 9 ≤ 140737488355328) (h : Pen w g v l) :
    Calls Try.prog 32 #[.pointer (some ⟨g, 0, none⟩), .int .i64 z] w (PenPost w g v (l ++ enc z.toNat)) := by
  have HH := Lib.hid h
  have HL := Lib.hid (enc_len9 (n := z.toNat) (by omega))
  have hg := h.lt
  have hm : z.toNat < 9223372036854775808 := by omega
  clear h
  by_cases hz0 : 0 ≤ z
  · obtain ⟨m, rfl⟩ := Int.eq_ofNat_of_zero_le hz0
    rw [Int.toNat_natCast] at *
    have hmx := hz
    go_enter Try.func32, Try.ntmps32
    go_wp2_with fail
    go_loopw [5] (fun x wr => NumRel w g v (l ++ enc m) x wr) (fun x _ => (intOf x).toNat)
    case atStart => exact ⟨m, v, l, rfl, hm, HH.out, rfl, Only.refl _ _, .inl rfl⟩
    case round =>
      obtain ⟨m1, v1, l1, rfl, hm1, hp, hall, hS, hv⟩ := hrel
      have hc0 := hp.c0
      have hf0 := hp.f0 0
      have hlen : l1.length + (enc m1).length = l.length + (enc m).length := by rw [← List.length_append, ← List.length_append, hall]
      have hpos := enc_pos m1
      have hlen1 : l1.length ≤ 140737488355300 + 28 - 1 := by have := HL.out; omega
      have HP := Lib.hid hp
      have HA := Lib.hid hall
      have HS := Lib.hid hS
      have HV := Lib.hid hv
      have HM1 := Lib.hid hm1
      have HL1 := Lib.hid hlen1
      clear hp hall hS hv hlen hpos hm1 hlen1 hm hmx hl hz hz0
      by_cases hs : m1 < 128
      · have HOB : Hid (OwnB (wr.alloc (.cells #[.int .u8 (m1 : Int)] 5)) 0 v1 l1) := Lib.hid (HP.out.2.only (S := fun _ => False) ((Only.refl _ wr).alloc _) (fun _ _ f => f))
        have hx256 : m1 < 256 := by omega
        go_wp2_with (at_builtin; go_must ((refine wpList_app (v := v1) rfl _ _ rfl rfl HOB.out rfl (bytes_one wr m1 hx256) rfl (Nat.zero_le _) (by have := HL1.out; simp only [List.length_cons, List.length_nil]; omega) ?_; intro v2 w2 hown hgr hbl; obtain ⟨hc2, hf2⟩ := pen_after HP.out ((Only.refl (fun _ => False) wr).alloc _) hgr; have HO2 := Lib.hid hown; have HG2 := Lib.hid hgr; have HB2 := Lib.hid hbl; obtain ⟨A2, c2, hv2, _⟩ := hown.form; clear hown hgr hbl; subst hv2)))
        go_ret
        obtain ⟨q1, q2, q3⟩ := pen_step HP.out HS.out HV.out _ ((Only.refl (fun _ => False) wr).alloc _) HO2.out HG2.out HB2.out
        simp only [List.length_append, List.length_cons, List.length_nil, Nat.zero_add] at q1 q2 q3
        have hall := HA.out
        rw [enc_small hs] at hall
        exact ⟨rfl, _, by rw [← hall]; exact q1, q2, q3⟩
      · have hor := u8_or128_wrap m1
        have hx256 : m1 % 128 + 128 < 256 := by omega
        have HX : ∃ x : Nat, Hid (m1 % 128 + 128 = x) := ⟨_, Lib.hid rfl⟩
        obtain ⟨x, HX⟩ := HX
        rw [HX.out] at hor hx256
        have HOB : Hid (OwnB (wr.alloc (.cells #[.int .u8 (x : Int)] 5)) 0 v1 l1) := Lib.hid (HP.out.2.only (S := fun _ => False) ((Only.refl _ wr).alloc _) (fun _ _ f => f))
        go_wp2_with (at_builtin; go_must ((refine wpList_app (v := v1) rfl _ _ rfl rfl HOB.out rfl (bytes_one wr x hx256) rfl (Nat.zero_le _) (by have := HL1.out; simp only [List.length_cons, List.length_nil]; omega) ?_; intro v2 w2 hown hgr hbl; obtain ⟨hc2, hf2⟩ := pen_after HP.out ((Only.refl (fun _ => False) wr).alloc _) hgr; have HO2 := Lib.hid hown; have HG2 := Lib.hid hgr; have HB2 := Lib.hid hbl; obtain ⟨A2, c2, hv2, _⟩ := hown.form; clear hown hgr hbl; subst hv2)))
        go_roundw
        case rel =>
          obtain ⟨q1, q2, q3⟩ := pen_step HP.out HS.out HV.out _ ((Only.refl (fun _ => False) wr).alloc _) HO2.out HG2.out HB2.out
          simp only [List.length_append, List.length_cons, List.length_nil, Nat.zero_add] at q1 q2 q3
          have hall := HA.out
          rw [enc_big hs, HX.out] at hall
          exact ⟨m1 / 128, _, l1 ++ [x], by go_num, by have := HM1.out; omega, q1, by simpa using hall, q2, q3⟩
        case measure => simp [intOf]; omega
  · have hmx := hz
    have h0 : Hid (z.toNat = 0) := Lib.hid (by omega)
    have hm : 0 < 9223372036854775808 := by omega
    have HL := Lib.hid (enc_len9 (n := 0) (by omega))
    rw [h0.out]
    go_enter Try.func32, Try.ntmps32
    go_wp2_with fail
    go_loopw [5] (fun x wr => NumRel w g v (l ++ enc 0) x wr) (fun x _ => (intOf x).toNat)
    case atStart => exact ⟨0, v, l, rfl, hm, HH.out, rfl, Only.refl _ _, .inl rfl⟩
    case round =>
      obtain ⟨m1, v1, l1, rfl, hm1, hp, hall, hS, hv⟩ := hrel
      have hc0 := hp.c0
      have hf0 := hp.f0 0
      have hlen : l1.length + (enc m1).length = l.length + (enc 0).length := by rw [← List.length_append, ← List.length_append, hall]
      have hpos := enc_pos m1
      have hlen1 : l1.length ≤ 140737488355300 + 28 - 1 := by have := HL.out; omega
      have HP := Lib.hid hp
      have HA := Lib.hid hall
      have HS := Lib.hid hS
      have HV := Lib.hid hv
      have HM1 := Lib.hid hm1
      have HL1 := Lib.hid hlen1
      clear hp hall hS hv hlen hpos hm1 hlen1 hm hmx hl hz hz0
      by_cases hs : m1 < 128
      · have HOB : Hid (OwnB (wr.alloc (.cells #[.int .u8 (m1 : Int)] 5)) 0 v1 l1) := Lib.hid (HP.out.2.only (S := fun _ => False) ((Only.refl _ wr).alloc _) (fun _ _ f => f))
        have hx256 : m1 < 256 := by omega
        go_wp2_with (at_builtin; go_must ((refine wpList_app (v := v1) rfl _ _ rfl rfl HOB.out rfl (bytes_one wr m1 hx256) rfl (Nat.zero_le _) (by have := HL1.out; simp only [List.length_cons, List.length_nil]; omega) ?_; intro v2 w2 hown hgr hbl; obtain ⟨hc2, hf2⟩ := pen_after HP.out ((Only.refl (fun _ => False) wr).alloc _) hgr; have HO2 := Lib.hid hown; have HG2 := Lib.hid hgr; have HB2 := Lib.hid hbl; obtain ⟨A2, c2, hv2, _⟩ := hown.form; clear hown hgr hbl; subst hv2)))
        go_ret
        obtain ⟨q1, q2, q3⟩ := pen_step HP.out HS.out HV.out _ ((Only.refl (fun _ => False) wr).alloc _) HO2.out HG2.out HB2.out
        simp only [List.length_append, List.length_cons, List.length_nil, Nat.zero_add] at q1 q2 q3
        have hall := HA.out
        rw [enc_small hs] at hall
        exact ⟨rfl, _, by rw [← hall]; exact q1, q2, q3⟩
      · have hor := u8_or128_wrap m1
        have hx256 : m1 % 128 + 128 < 256 := by omega
        have HX : ∃ x : Nat, Hid (m1 % 128 + 128 = x) := ⟨_, Lib.hid rfl⟩
        obtain ⟨x, HX⟩ := HX
        rw [HX.out] at hor hx256
        have HOB : Hid (OwnB (wr.alloc (.cells #[.int .u8 (x : Int)] 5)) 0 v1 l1) := Lib.hid (HP.out.2.only (S := fun _ => False) ((Only.refl _ wr).alloc _) (fun _ _ f => f))
        go_wp2_with (at_builtin; go_must ((refine wpList_app (v := v1) rfl _ _ rfl rfl HOB.out rfl (bytes_one wr x hx256) rfl (Nat.zero_le _) (by have := HL1.out; simp only [List.length_cons, List.length_nil]; omega) ?_; intro v2 w2 hown hgr hbl; obtain ⟨hc2, hf2⟩ := pen_after HP.out ((Only.refl (fun _ => False) wr).alloc _) hgr; have HO2 := Lib.hid hown; have HG2 := Lib.hid hgr; have HB2 := Lib.hid hbl; obtain ⟨A2, c2, hv2, _⟩ := hown.form; clear hown hgr hbl; subst hv2)))
        go_roundw
        case rel =>
          obtain ⟨q1, q2, q3⟩ := pen_step HP.out HS.out HV.out _ ((Only.refl (fun _ => False) wr).alloc _) HO2.out HG2.out HB2.out
          simp only [List.length_append, List.length_cons, List.length_nil, Nat.zero_add] at q1 q2 q3
          have hall := HA.out
          rw [enc_big hs, HX.out] at hall
          exact ⟨m1 / 128, _, l1 ++ [x], by go_num, by have := HM1.out; omega, q1, by simpa using hall, q2, q3⟩
        case measure => simp [intOf]; omega
end Go.Proofs.Ytcbcjgdhbopceaa
