/-
The law of the order in which a list gives back what was pushed, walked: the set beside it holds the list's numbers.
-/
import Derived.Test.YtpjhflimaiaokaaWL
import Derived.Test.YtpjhflimaiaokaaSC
namespace Go.Proofs.Ytpjhflimaiaokaa.Order
open Go.RowKit Go.Proofs.YtpjhflimaiaokaaW.PrintWords Go.Proofs.YtpjhflimaiaokaaW.PrintLast Go.Proofs.YtpjhflimaiaokaaW.PrintMore Go.Proofs.Ytpjhflimaiaokaa.Fr
open Go.Proofs.Ytpjhflimaiaokaa.Alive (alive_calls)
open Go.Proofs.Ytpjhflimaiaokaa.Hand Go.Proofs.Ytpjhflimaiaokaa.Heaps Go.Proofs.Ytpjhflimaiaokaa.Lists
open Go.Proofs.Ytpjhflimaiaokaa.Sets
open Go.Proofs.Ytpjhflimaiaokaa.SetW

/-! ### the plain law -/
structure Own (ts : List Tk) : Prop where
  hp : Hp ts
  nodup : (ts.map Tk.n).Nodup
  num : ∀ t, t ∈ ts → isNum t.n = true
theorem Own.same {ts : List Tk} (h : Own ts) : Same ts ts := ⟨h.hp, .refl _, h.nodup, h.num⟩
theorem Own.le {ts : List Tk} (h : Own ts) : ts.length ≤ 1048576 := h.same.le
theorem own_nil : Own [] := ⟨same_nil.hp, by simp, by simp⟩
theorem mem_n {ts : List Tk} {i : Nat} (hi : i < ts.length) : (at_ ts i).n ∈ ts.map Tk.n := List.mem_map.2 ⟨_, mem_at hi, rfl⟩
theorem Own.push {ts ts' : List Tk} {n x k : Int} {b : Bool} (h : Own ts) (hp : PushSpec ts n x b k ts') :
    Own ts' ∧ ((isNum n = false ∧ b = false ∧ k = 1 ∧ ts' = ts) ∨ (isNum n = true ∧ k = 0 ∧ (b = true ↔ ¬ n ∈ ts.map Tk.n) ∧ ∀ y, y ∈ ts'.map Tk.n ↔ y = n ∨ y ∈ ts.map Tk.n)) := by
  cases hp with
  | bad hb => exact ⟨h, .inl ⟨hb, rfl, rfl, rfl⟩⟩
  | there i hn hi he hle =>
    have hm : n ∈ ts.map Tk.n := he ▸ mem_n hi
    exact ⟨h, .inr ⟨hn, rfl, by simp [hm], fun y => ⟨.inr, fun hy => hy.elim (fun e => e ▸ hm) id⟩⟩⟩
  | lighter i hn hi he hlt =>
    have hm : n ∈ ts.map Tk.n := he ▸ mem_n hi
    have hL : L ⟨n, x⟩ (at_ ts i) := L_of_less (by
      have hlt2 : x < (at_ ts i).w := hlt
      simp only [less, hlt2, decide_true, Bool.true_or])
    obtain ⟨h1, h2⟩ := fix_hp h.hp hi hL
    have h3 : ((fixF (ts.set i ⟨n, x⟩) i).map Tk.n).Perm (ts.map Tk.n) := (h2.map Tk.n).trans (by rw [map_n_set hi he])
    refine ⟨⟨h1, h3.nodup_iff.2 h.nodup, fun t ht => ?_⟩, .inr ⟨hn, rfl, by simp [hm], fun y => ?_⟩⟩
    · have := h3.subset (List.mem_map.2 ⟨t, ht, rfl⟩)
      obtain ⟨u, hu, e⟩ := List.mem_map.1 this
      rw [← e]; exact h.num u hu
    · rw [h3.mem_iff]
      exact ⟨.inr, fun hy => hy.elim (fun e => e ▸ hm) id⟩
  | new hn hno =>
    have hm : ¬ n ∈ ts.map Tk.n := fun hm => by
      obtain ⟨u, hu, e⟩ := List.mem_map.1 hm
      obtain ⟨j, hj, e2⟩ := at_of_mem hu
      exact hno j hj (by rw [← e, ← e2])
    obtain ⟨h1, h2⟩ := push_hp h.hp ⟨n, x⟩
    have h3 : ((pushF ts ⟨n, x⟩).map Tk.n).Perm (n :: ts.map Tk.n) := h2.map Tk.n
    refine ⟨⟨h1, h3.nodup_iff.2 (List.nodup_cons.2 ⟨hm, h.nodup⟩), fun t ht => ?_⟩, .inr ⟨hn, rfl, by simp [hm], fun y => ?_⟩⟩
    · rcases List.mem_cons.1 (h2.subset ht) with e | ht
      · rw [e]; exact hn
      · exact h.num t ht
    · rw [h3.mem_iff, List.mem_cons]
/-- Before: by weight, and by number where weights are one. -/
def Lt (a b : Tk) : Prop := a.w < b.w ∨ (a.w = b.w ∧ a.n < b.n)
theorem lt_of_L {a b : Tk} (h : L a b) (hn : a.n ≠ b.n) : Lt a b := by
  simp only [L, less, Bool.or_eq_false_iff, Bool.and_eq_false_iff, decide_eq_false_iff_not] at h
  unfold Lt
  omega
theorem Own.pop {ts : List Tk} (h : Own ts) (hp : 0 < ts.length) : ∃ t ts', lPopF ts = (t, true, ts') ∧ ts'.length + 1 = ts.length ∧ Own ts' ∧ t ∈ ts ∧ (∀ u, u ∈ ts' → u ∈ ts) ∧ (∀ u, u ∈ ts' → Lt t u) ∧ ∀ y, y ∈ ts'.map Tk.n ↔ y ∈ ts.map Tk.n ∧ y ≠ t.n := by
  obtain ⟨e, h1, h2⟩ := pop_hp h.hp hp
  have hne : ts ≠ [] := fun e => by simp [e] at hp
  have h3 : ((popF ts).1.n :: (popF ts).2.map Tk.n).Perm (ts.map Tk.n) := h2.map Tk.n
  have h4 := List.nodup_cons.1 (h3.nodup_iff.2 h.nodup)
  have hin : ∀ u, u ∈ (popF ts).2 → u ∈ ts := fun u hu => h2.subset (List.mem_cons_of_mem _ hu)
  refine ⟨(popF ts).1, (popF ts).2, by simp [lPopF, hne], by simpa using h2.length_eq, ⟨h1, h4.2, fun t ht => h.num t (hin t ht)⟩, h2.subset (List.mem_cons_self ..), hin, fun u hu => ?_, fun y => ?_⟩
  · obtain ⟨i, hi, e2⟩ := at_of_mem (hin u hu)
    refine lt_of_L (by rw [e, ← e2]; exact h.hp.least i hi) (fun e3 => h4.1 (by rw [e3]; exact List.mem_map.2 ⟨u, hu, rfl⟩))
  · rw [← h3.mem_iff, List.mem_cons]
    exact ⟨fun hy => ⟨.inr hy, fun e => h4.1 (e ▸ hy)⟩, fun hy => hy.1.elim (fun e => absurd e hy.2) id⟩
theorem rising_nodup {l : List Int} (h : Rising l) : l.Nodup := by
  rw [List.nodup_iff_pairwise_ne, List.pairwise_iff_getElem]
  intro i j hi hj hij
  have := h i j (by omega) (by omega) (by omega)
  simp only [rd, List.getD_eq_getElem?_getD, Int.toNat_natCast, List.getElem?_eq_getElem hi, List.getElem?_eq_getElem hj, Option.getD_some] at this
  omega
structure Both (ts : List Tk) (l : List Int) : Prop where
  own : Own ts
  rise : Rising l
  mem : ∀ x, x ∈ l ↔ x ∈ ts.map Tk.n
theorem Both.num {ts : List Tk} {l : List Int} (h : Both ts l) : ∀ x, x ∈ l → isNum x = true := fun x hx => by
  obtain ⟨t, ht, rfl⟩ := List.mem_map.1 ((h.mem x).1 hx)
  exact h.own.num t ht
theorem Both.add {ts ts' : List Tk} {l l' : List Int} {n x : Int} {b : Bool} (h : Both ts l) (hp : PushSpec ts n x b 0 ts') (ha : AddInv l [n] l' 1) : Both ts' l' ∧ ((!(b == (((l'.length : Int) - l.length) == 1))) = false) := by
  obtain ⟨ho, h1⟩ := h.own.push hp
  have hm : ∀ y, y ∈ l' ↔ y ∈ l ∨ y = n := fun y => by rw [ha.mem]; simp
  rcases h1 with ⟨_, _, h1, _⟩ | ⟨_, _, h2, h3⟩
  · exact absurd h1 (by decide)
  refine ⟨⟨ho, ha.rise, fun y => by rw [hm, h3, h.mem]; exact or_comm⟩, ?_⟩
  have nl := rising_nodup h.rise
  have nl' := rising_nodup ha.rise
  by_cases hn : n ∈ l
  · have e1 := nodup_sub l' l nl' (fun y hy => ((hm y).1 hy).elim id (fun e => e ▸ hn))
    have e2 := nodup_sub l l' nl (fun y hy => (hm y).2 (.inl hy))
    have hb : b = false := by
      cases b with
      | false => rfl
      | true => exact absurd ((h.mem n).1 hn) (h2.1 rfl)
    have e3 : ((l'.length : Int) - l.length == 1) = false := by simp; omega
    rw [hb, e3]; rfl
  · have e1 := nodup_sub l' (n :: l) nl' (fun y hy => ((hm y).1 hy).elim (List.mem_cons_of_mem _) (fun e => e ▸ List.mem_cons_self ..))
    have e2 := nodup_sub (n :: l) l' (List.nodup_cons.2 ⟨hn, nl⟩) (fun y hy => by rcases List.mem_cons.1 hy with e | hy; exact (hm y).2 (.inr e); exact (hm y).2 (.inl hy))
    have hb : b = true := h2.2 (fun hh => hn ((h.mem n).2 hh))
    simp only [List.length_cons] at e1 e2
    have e3 : ((l'.length : Int) - l.length == 1) = true := by simp; omega
    rw [hb, e3]; rfl
theorem Both.drop {ts ts' : List Tk} {l l' : List Int} {t : Tk} (h : Both ts l) (ho : Own ts') (ht : t ∈ ts) (hm : ∀ y, y ∈ ts'.map Tk.n ↔ y ∈ ts.map Tk.n ∧ y ≠ t.n) (hd : DropInv l [t.n] l' 1) : Both ts' l' ∧ (l.length : Int) - l'.length = 1 := by
  have hm' : ∀ y, y ∈ l' ↔ y ∈ l ∧ y ≠ t.n := fun y => by rw [hd.mem]; simp
  refine ⟨⟨ho, hd.rise, fun y => by rw [hm', hm, h.mem]⟩, ?_⟩
  have nl := rising_nodup h.rise
  have nl' := rising_nodup hd.rise
  have hin : t.n ∈ l := (h.mem _).2 (List.mem_map.2 ⟨t, ht, rfl⟩)
  have e1 := nodup_sub (t.n :: l') l (List.nodup_cons.2 ⟨fun hh => ((hm' _).1 hh).2 rfl, nl'⟩) (fun y hy => by rcases List.mem_cons.1 hy with e | hy; exact e ▸ hin; exact ((hm' y).1 hy).1)
  have e2 := nodup_sub l (t.n :: l') nl (fun y hy => by
    by_cases e : y = t.n
    · exact e ▸ List.mem_cons_self ..
    · exact List.mem_cons_of_mem _ ((hm' y).2 ⟨hy, e⟩))
  simp only [List.length_cons] at e1 e2
  omega
/-! ### the walk -/
theorem Nums.fr {w w1 : World} {B g : Nat} {sv : Value} {l : List Int} (h : Nums w B g sv l) (hF : Fr (fun _ => False) w w1) : Nums w1 B g sv l := ⟨hF.blk h.blk id, hF.R h.row (fun _ _ => id)⟩
theorem Nums.above {W : World} {B g : Nat} {sv : Value} {l : List Int} (hT : Nums W B g sv l) (hg : B ≤ g) (k : Nat) (hk : k < B) : ¬ SFoot g sv k := fun hf => hf.elim (fun e => by omega) (fun e => by have := ((Kd.R_bound hT.row).1 k e).2.1; omega)
theorem kI_E : kI.E = [] := rfl
theorem Nums.foot {w w1 : World} {B B' g gi : Nat} {sv iv : Value} {ts : List Tk} {l : List Int} (h : Nums w B gi iv l) (hT : Tasks w B' g sv ts) (hF : Fr (Foot g sv) w w1) : Nums w1 B gi iv l := by
  refine ⟨hF.blk h.blk (fun hf => ?_), Kd.R_mono (hF.R (Kd.R_bound h.row) (fun k hk hf => ?_)) (fun _ _ => trivial)⟩
  · rcases hf with e | hf
    · exact blk_ne h.blk hT.blk (by decide) e
    · exact Kd.R_ne hT.row h.blk (by decide) hf.symm
  · obtain ⟨_, _, _, q, hq, cells, hc⟩ := hk
    obtain rfl : q = 3 := by simpa [kI_E] using hq
    rcases hf with rfl | hf
    · exact blk_ne hc hT.blk (by decide) rfl
    · obtain ⟨cells2, hc2⟩ := Kd.R_typed hT.row k hf
      rw [hc] at hc2; injection hc2 with this; injection this with _ h2; exact absurd h2 (by decide)
theorem Tasks.sfoot {w w1 : World} {B B' g gi : Nat} {sv iv : Value} {ts : List Tk} {l : List Int} (h : Tasks w B g sv ts) (hT : Nums w B' gi iv l) (hF : Fr (SFoot gi iv) w w1) : Tasks w1 B g sv ts := by
  refine ⟨hF.blk h.blk (fun hf => ?_), Kd.R_mono (hF.R (Kd.R_bound h.row) (fun k hk hf => ?_)) (fun _ _ => trivial)⟩
  · rcases hf with e | hf
    · exact blk_ne h.blk hT.blk (by decide) e
    · exact Kd.R_ne hT.row h.blk (by decide) hf.symm
  · obtain ⟨_, _, _, q, hq, cells, hc⟩ := hk
    have hq : q = 73 := by
      simp only [List.mem_cons] at hq
      rcases hq with rfl | hq
      · rfl
      · exact absurd hq (by simp [kT, Kd.iso, Kd.pair, Kd.int, Kd.scalar])
    subst hq
    rcases hf with rfl | hf
    · exact blk_ne hc hT.blk (by decide) rfl
    · obtain ⟨cells2, hc2⟩ := Kd.R_typed hT.row k hf
      rw [hc] at hc2; injection hc2 with this; injection this with _ h2; exact absurd h2 (by decide)

/-- What is so at the head of each round: the list in block g holds the tasks ts, the set in block h their numbers. -/
structure OW (w : World) (g h : Nat) (W : World) (ts : List Tk) : Prop where
  ex : ∃ sv iv l, Tasks W w.heap.size g sv ts ∧ Nums W w.heap.size h iv l ∧ Both ts l
  fr : Fr (fun _ => False) w W
  hg : w.heap.size ≤ g
  hh : w.heap.size ≤ h
/-- How long the list in block g is. -/
def lenAt (W : World) (g : Nat) : Nat := match W.cell? ⟨g, 0, none⟩ with
  | some (.slice _ n _) => n
  | _ => 0
theorem Tasks.lenAt {W : World} {B g : Nat} {sv : Value} {ts : List Tk} (h : Tasks W B g sv ts) : lenAt W g = ts.length := by
  obtain ⟨A, c, rfl⟩ := Kd.R_slice h.row
  simp [Order.lenAt, h.cell]

theorem one_away {W : World} {B g : Nat} {sv : Value} {l : List Int} (h : Nums W B g sv l) (n : Int) : Away (W.alloc (.cells #[.int .i64 n] 3)) g sv (some ⟨W.heap.size, 0, none⟩) [n].length [n] := by
  refine ⟨⟨rfl, by simp, fun _ => ⟨_, rfl, fun j p hp => ?_⟩⟩, fun ad e _ => ?_⟩
  · have hj : j = 0 := by have := (List.getElem?_eq_some_iff.1 hp).1; simp at this; omega
    subst hj
    simp only [List.getElem?_cons_zero, Option.some.injEq] at hp
    subst hp
    refine ⟨[.int .i64 n], rfl, rfl, fun i u hu => ?_⟩
    have hi : i = 0 := by have := (List.getElem?_eq_some_iff.1 hu).1; simp at this; omega
    subst hi
    exact (blk_cell (blk_new W (.cells #[.int .i64 n] 3)) 0).trans (by simpa using hu)
  · injection e with e
    subst e
    refine ⟨fun e => by have := blk_lt h.blk; simp at e; omega, fun e => ?_, by simp⟩
    have := ((Kd.R_bound h.row).1 _ e).2.2.1
    simp at this
theorem OW.skip {w W W4 : World} {g h : Nat} {ts ts' : List Tk} {sv4 iv : Value} {l : List Int} (hL : OW w g h W ts) (hT : Tasks W4 w.heap.size g sv4 ts') (hN : Nums W4 w.heap.size h iv l) (hB : Both ts' l) (hF : Fr (fun _ => False) w W4) : OW w g h W4 ts' :=
  ⟨⟨sv4, iv, l, hT, hN, hB⟩, hF, hL.hg, hL.hh⟩
set_option maxRecDepth 100000 in
set_option maxHeartbeats 1000000 in
theorem law_calls (w : World) (A : Option Addr) (c : Nat) (ss : List Sc) (hr : kS.C w A ss.length ss) :
    Calls Try.prog 4 #[.slice A ss.length c] w fun e w' => e = .returned (.bool true) ∧ Below w.heap.size w w' := by
  have hm := Kd.C_max hr
  have hu3 := Try.underlying30
  have HR := Aside0.mk hr
  clear hr
  go_enter Try.func4, Try.ntmps4
  go_wp2_with (fail)
  refine (lNew_calls w w.heap.size).mono ?_
  rintro e W1 ⟨rfl, hT1, hF1⟩
  have HT1 := Aside0.mk hT1
  have HF1 := Aside0.mk hF1
  clear hT1 hF1
  go_wp2_with (fail)
  refine (alive_calls _).mono ?_
  rintro e W2 ⟨rfl, hF2⟩
  have HT2 := Aside0.mk (Tasks.fr HT1.out hF2)
  have HF2 := Aside0.mk (HF1.out.trans hF2 (fun _ _ hf => hf))
  clear hF2
  go_wp2_with (fail)
  refine (newSet_calls W2 w.heap.size [] none 0 HF2.out.size ⟨rfl, by simp, fun h => absurd h (by simp)⟩ (fun _ h => by cases h)).mono ?_
  rintro e W3 hP
  rcases hP with ⟨_, l', iv, hA, rfl, hN, hO, hF3⟩ | ⟨⟨y, hy, _⟩, _⟩
  rotate_left
  · cases hy
  have hl : l' = [] := List.eq_nil_iff_forall_not_mem.2 (fun x hx => by have := (hA.mem x).1 hx; simp at this)
  subst hl
  have HW := Aside0.mk (show OW w w.heap.size W2.heap.size W3 [] from ⟨⟨_, iv, [], Tasks.fr HT2.out hF3, hN, own_nil, hA.rise, by simp⟩, HF2.out.trans hF3 (fun _ _ hf => hf), Nat.le_refl _, HF2.out.size⟩)
  clear hA hN hO hF3 HT1 HF1 HT2 HF2
  go_wp2_with (fail)
  go_loopw [36] (fun a W => ∃ i : Nat, a = .int .i64 i ∧ i ≤ ss.length ∧ ∃ ts, Aside0 (OW w w.heap.size W2.heap.size W ts)) (fun a _ => ss.length - (intOf a).toNat)
  case atStart => exact ⟨0, rfl, Nat.zero_le _, [], HW⟩
  case round =>
    obtain ⟨i, rfl, hi, ts, HL⟩ := hrel
    obtain ⟨sv, iv, l, hT, hN, hB⟩ := HL.out.ex
    have HT := Aside0.mk hT
    have HN := Aside0.mk hN
    have HBT := Aside0.mk hB
    have hle := hB.own.le
    clear hT hN hB
    by_cases hlt : i < ss.length
    · obtain ⟨ad, hA, s1, s2, s3⟩ := at_sc HR.out (i : Int) (by omega) (by omega)
      subst hA
      simp only [Int.toNat_natCast] at s1 s2 s3
      replace s1 := HL.out.fr.cell s1 id
      replace s2 := HL.out.fr.cell s2 id
      replace s3 := HL.out.fr.cell s3 id
      generalize ss.getD i Sc.z = s at s1 s2 s3
      go_wp2_with (fail)
      refine (lPush_calls _ w.heap.size w.heap.size sv ts (Tasks.alloc HT.out _) (by simp; have := HL.out.fr.size; omega) hle s.n s.w).mono ?_
      rintro e W4 ⟨b1, k1, ts', rfl, hp1, sv4, hT4, hF4, hO4⟩
      have hbs := hF4.blk (blk_new wr (.cells #[.bool s.pop, .int .i64 s.n, .int .i64 s.w] 30)) (Tasks.older HT.out)
      have hs1 : W4.cell? ⟨wr.heap.size, 1, none⟩ = some (.int .i64 s.n) := (blk_cell hbs 1).trans rfl
      have HN4 := Aside0.mk (Nums.foot (HN.out.alloc _) (Tasks.alloc HT.out _) hF4)
      have HT4 := Aside0.mk hT4
      have HF4 := Aside0.mk ((HL.out.fr.alloc _).trans hF4 (fun k hk hf => Tasks.above HT.out (Nat.le_refl _) k hk hf))
      clear hT4 hF4 hO4 hbs
      obtain ⟨ho, h1⟩ := HBT.out.own.push hp1
      rcases h1 with ⟨_, rfl, rfl, rfl⟩ | ⟨hnum, rfl, _, _⟩
      · clear ho hp1
        go_wp2_with (fail)
        exact ⟨⟨i + 1, by simp, by omega, _, Aside0.mk (OW.skip HL.out HT4.out HN4.out HBT.out HF4.out)⟩, by show ss.length - ((i : Int) + 1).toNat < ss.length - (i : Int).toNat; omega⟩
      · have HP1 := Aside0.mk hp1
        have HNM := Lib.hid hnum
        have hsz := HF4.out.size
        clear ho hp1 hnum
        go_wp2_with (fail)
        refine (add_calls _ w.heap.size W2.heap.size iv l [s.n] _ _ (HN4.out.alloc _) (by simp; omega) HBT.out.rise HBT.out.num (one_away HN4.out s.n)).mono ?_
        rintro e W5 hA
        rcases hA with ⟨_, l', hA, rfl, iv5, hN5, hF5, _⟩ | ⟨⟨y, hy, hz⟩, _⟩
        rotate_left
        · simp only [List.mem_cons, List.not_mem_nil, or_false] at hy
          subst hy
          rw [HNM.out] at hz
          cases hz
        obtain ⟨hB5, hq⟩ := HBT.out.add HP1.out hA
        have HN5 := Aside0.mk hN5
        have HT5 := Aside0.mk (Tasks.sfoot (HT4.out.alloc _) (HN4.out.alloc _) hF5)
        have HF5 := Aside0.mk ((HF4.out.alloc _).trans hF5 (fun k hk hf => Nums.above HN4.out HL.out.hh k hk hf))
        have HB5 := Aside0.mk hB5
        clear hA hN5 hF5 hB5
        go_wp2_with (fail)
        exact ⟨⟨i + 1, by simp, by omega, _, Aside0.mk (OW.skip HL.out HT5.out HN5.out HB5.out HF5.out)⟩, by show ss.length - ((i : Int) + 1).toNat < ss.length - (i : Int).toNat; omega⟩
    · go_wp2_with (fail)
      clear hi hlt HT HN HBT hle hm HR HW
      go_loopw [12, 13, 14] (fun a b d W => ∃ (la we : Int) (fi : Bool) (ts : List Tk), a = .int .i64 la ∧ b = .int .i64 we ∧ d = .bool fi ∧ Aside0 (OW w w.heap.size W2.heap.size W ts) ∧ Aside0 (fi = false → ∀ u, u ∈ ts → Lt ⟨la, we⟩ u)) (fun _ _ _ W => lenAt W w.heap.size)
      case atStart => exact ⟨0, 0, true, ts, rfl, rfl, rfl, HL, ⟨fun h => by cases h⟩⟩
      case round =>
        clear HL
        obtain ⟨la, we, fi, us, rfl, rfl, rfl, HL, HO⟩ := hrel
        obtain ⟨sv, iv, l, hT, hN, hB⟩ := HL.out.ex
        have HT := Aside0.mk hT
        have HN := Aside0.mk hN
        have HBT := Aside0.mk hB
        have hle := hB.own.le
        clear hT hN
        by_cases hp : 0 < us.length
        · have hp1 : (0 : Int) < us.length := by omega
          obtain ⟨t, us', he, hlen, ho, ht, hsub, hlt, hmem⟩ := hB.own.pop hp
          clear hB
          go_wp2_with (fail)
          refine (lLen_calls _ _ _ _ _ HT.out).mono ?_
          rintro e W4 ⟨rfl, rfl⟩
          go_wp2_with (fail)
          refine (lPop_calls _ w.heap.size w.heap.size sv us HT.out (by omega)).mono ?_
          rw [he]
          rintro e W4 ⟨rfl, sv4, hT4, hF4, _⟩
          have HT4 := Aside0.mk hT4
          have HN4 := Aside0.mk (Nums.foot HN.out HT.out hF4)
          have HF4 := Aside0.mk (HL.out.fr.trans hF4 (fun k hk hf => Tasks.above HT.out (Nat.le_refl _) k hk hf))
          have HOW := Aside0.mk ho
          have HIN := Aside0.mk ht
          have HMEM := Aside0.mk hmem
          have HNEXT := Aside0.mk hlt
          have HFI := Aside0.mk (fun h : fi = false => HO.out h t ht)
          have HE := Lib.hid he
          have hll : l.length ≤ 1048576 := Sets.len_le HBT.out.rise HBT.out.num
          have hsz := HF4.out.size
          have HLN := Lib.hid hlen
          clear hT4 hF4 ho ht hmem hlt hsub he hlen hp hp1
          go_wp2_with (fail)
          refine (drop_calls _ w.heap.size W2.heap.size iv l [t.n] _ _ (HN4.out.alloc _) (by simp; omega) HBT.out.rise hll (one_away HN4.out t.n)).mono ?_
          rintro e W5 ⟨l', hD, hl2, rfl, iv5, hN5, hF5, _⟩
          obtain ⟨hB5, hq⟩ := HBT.out.drop HOW.out HIN.out HMEM.out hD
          rw [hq]
          have HT5 := Aside0.mk (Tasks.sfoot (HT4.out.alloc _) (HN4.out.alloc _) hF5)
          have HQ := Aside0.mk (OW.skip (W := wr) HL.out HT5.out hN5 hB5 ((HF4.out.alloc _).trans hF5 (fun k hk hf => Nums.above HN4.out HL.out.hh k hk hf)))
          have HM := Lib.hid (show lenAt W5 w.heap.size < lenAt wr w.heap.size by rw [Tasks.lenAt HT5.out, Tasks.lenAt HT.out]; have := HLN.out; omega)
          clear hD hl2 hN5 hF5 hB5 hq
          cases fi with
          | true =>
            go_wp2_with (fail)
            exact ⟨⟨_, _, _, _, rfl, rfl, rfl, HQ, ⟨fun _ => HNEXT.out⟩⟩, HM.out⟩
          | false =>
            rcases HFI.out rfl with h1 | ⟨h1, h2⟩
            · have h2 : ¬ t.w < we := by simp only at h1; omega
              have h3 : (t.w == we) = false := by simp only at h1; simp; omega
              simp only at h1
              go_wp2_with (fail)
              exact ⟨⟨_, _, _, _, rfl, rfl, rfl, HQ, ⟨fun _ => HNEXT.out⟩⟩, HM.out⟩
            · simp only at h1 h2
              subst h1
              have h3 : ¬ t.n ≤ la := by omega
              go_wp2_with (fail)
              exact ⟨⟨_, _, _, _, rfl, rfl, rfl, HQ, ⟨fun _ => HNEXT.out⟩⟩, HM.out⟩
        · have hp0 : us.length = 0 := by omega
          have hu : us = [] := List.eq_nil_of_length_eq_zero hp0
          subst hu
          go_wp2_with (fail)
          refine (lLen_calls _ _ _ _ _ HT.out).mono ?_
          rintro e W4 ⟨rfl, rfl⟩
          clear hp hp0
          go_wp2_with (fail)
          refine (lPop_calls _ w.heap.size w.heap.size sv [] HT.out (by simp)).mono ?_
          rintro e W4 ⟨rfl, sv4, hT4, hF4, _⟩
          have HN4 := Aside0.mk (Nums.foot HN.out HT.out hF4)
          have HF4 := Aside0.mk (HL.out.fr.trans hF4 (fun k hk hf => Tasks.above HT.out (Nat.le_refl _) k hk hf))
          have hl0 : l = [] := List.eq_nil_iff_forall_not_mem.2 (fun x hx => by have := (HBT.out.mem x).1 hx; simp at this)
          subst hl0
          clear hT4 hF4
          simp only [lPopF, if_pos]
          go_wp2_with (fail)
          refine (slen_calls _ _ _ _ _ HN4.out).mono ?_
          rintro e W5 ⟨rfl, rfl⟩
          go_wp2_with (fail)
          go_ret
          exact ⟨rfl, HF4.out.to_below⟩
end Go.Proofs.Ytpjhflimaiaokaa.Order
