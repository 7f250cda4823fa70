/-
The law of two sets, walked.
-/
import Derived.Test.YtpjhflimaiaokaaDoorDC
import Derived.Test.YtpjhflimaiaokaaDoorOA
import Derived.Test.YtpjhflimaiaokaaDoorAL
import Derived.Deep.RegionHeld3
namespace Go.Proofs.YtpjhflimaiaokaaDoor.SetsLaw
open Go.RowKit Go.Proofs.YtpjhflimaiaokaaDoorW.PrintWords Go.Proofs.YtpjhflimaiaokaaDoorW.PrintLast Go.Proofs.YtpjhflimaiaokaaDoorW.PrintMore Go.Proofs.YtpjhflimaiaokaaDoor.Fr Go.Proofs.YtpjhflimaiaokaaDoor.Sets Go.Proofs.YtpjhflimaiaokaaDoor.SetW Go.Proofs.YtpjhflimaiaokaaDoor.RSet Go.Proofs.YtpjhflimaiaokaaDoor.Does Go.Proofs.YtpjhflimaiaokaaDoor.Op
open Go.Proofs.YtpjhflimaiaokaaDoor.Alive (alive_calls)

/-- The two sets in their arrays, by name. -/
structure Now (W : World) (top ga gr g h : Nat) (s t v u : Value) (l m : List Int) : Prop where
  two : Two W top g h s t v u l m l m
  a : W.heap[ga]? = some (.cells #[.pointer (some ⟨g, 0, none⟩), .pointer (some ⟨h, 0, none⟩)] 38 (0, 0))
  r : W.heap[gr]? = some (.cells #[v, u] 43 (0, 0))
theorem Now.fr {W W1 : World} {top ga gr g h : Nat} {s t v u : Value} {l m : List Int} (N : Now W top ga gr g h s t v u l m) (hF : Fr (fun _ => False) W W1) : Now W1 top ga gr g h s t v u l m := ⟨N.two.fr hF, hF.blk N.a id, hF.blk N.r id⟩
theorem Now.cells {W : World} {top ga gr g h : Nat} {s t v u : Value} {l m : List Int} (N : Now W top ga gr g h s t v u l m) :
    W.cell? ⟨ga, 0, none⟩ = some (.pointer (some ⟨g, 0, none⟩)) ∧ W.cell? ⟨ga, 1, none⟩ = some (.pointer (some ⟨h, 0, none⟩)) ∧ W.cell? ⟨gr, 0, none⟩ = some v ∧ W.cell? ⟨gr, 1, none⟩ = some u :=
  ⟨(blk_cell N.a 0).trans rfl, (blk_cell N.a 1).trans rfl, (blk_cell N.r 0).trans rfl, (blk_cell N.r 1).trans rfl⟩
/-- The condition that a held region keeps may be made stronger on the way. -/
theorem wpAnyH_imp {P : Program} {md : Region.Mode} {ops : Array Oper} {Q : Exit → Act → World → Prop} {S1 S0 : World → Prop} (hS : ∀ w, S1 w → S0 w) : ∀ (fuel : Nat) (listed : Array Bool) (a : Act) (w : World), wpAnyH P md ops Q S1 fuel listed a w → wpAnyH P md ops Q S0 fuel listed a w
  | 0, _, _, _, h => h
  | f + 1, _, _, _, h => ⟨h.1, fun i hi => wpOp_mono (fun a' w' h' => ⟨hS w' h'.1, wpAnyH_imp hS f _ a' w' h'.2⟩) (h.2 i hi)⟩
theorem none_good {xs : List Int} (hno : ∃ y, y ∈ xs ∧ isNum y = false) {b : Bool} (hb : b = true ↔ ∀ y, y ∈ xs → isNum y = true) : b = false := by
  cases b with
  | false => rfl
  | true =>
    obtain ⟨y, hy, hz⟩ := hno
    rw [hb.1 rfl y hy] at hz
    cases hz
set_option maxRecDepth 100000 in
set_option maxHeartbeats 8000000 in
theorem law_calls (w : World) (A : Option Addr) (c : Nat) (xs : List Int) (A' : Option Addr) (c' : Nat) (ys : List Int) (A3 : Option Addr) (c3 : Nat) (ss : List Ac) (hr : kI.C w A xs.length xs) (hr' : kI.C w A' ys.length ys) (hs : kA.C w A3 ss.length ss)
    (hlt : ∀ ad, A = some ad → 0 < xs.length → ad.block < w.heap.size) (hlt' : ∀ ad, A' = some ad → 0 < ys.length → ad.block < w.heap.size) (ht : Tab w) :
    Calls Tryd.prog 4 #[.slice A xs.length c, .slice A' ys.length c', .slice A3 ss.length c3] w fun e w' => e = .returned (.bool true) ∧ Below w.heap.size w w' := by
  have HR := Aside0.mk hr
  have HR' := Aside0.mk hr'
  have HS := Aside0.mk hs
  have hm := Kd.C_max hs
  have HLT := Aside0.mk hlt
  have HLT' := Aside0.mk hlt'
  have HT := Aside0.mk ht
  clear hr hr' hs hlt hlt' ht
  go_enter Tryd.func4, Tryd.ntmps4
  go_wp2_with (fail)
  refine (newSet_calls w w.heap.size xs A c (Nat.le_refl _) HR.out HLT.out).mono ?_
  rintro e W1 hP
  rcases hP with ⟨hall, lx, svx, hA, rfl, hN, hox, hF1⟩ | ⟨hno, rfl, hF1⟩
  · have HA := Aside0.mk hall
    have HX := Aside0.mk hN
    have HI := Aside0.mk hA
    have HOX := Aside0.mk hox
    have HF1 := Aside0.mk hF1
    clear hN hA hF1 hall hox
    go_wp2_with (fail)
    refine (newSet_calls W1 W1.heap.size ys A' c' (Nat.le_refl _) (HF1.out.C (S := fun _ => False) 0 HR'.out (fun _ _ _ => id)) (fun ad e hp => Nat.lt_of_lt_of_le (HLT'.out ad e hp) HF1.out.size)).mono ?_
    rintro e W2 hP2
    rcases hP2 with ⟨hall, ly, svy, hA2, rfl, hN2, hoy, hF2⟩ | ⟨hno, rfl, hF2⟩
    · have HB := Aside0.mk hall
      have HJ := Aside0.mk hA2
      have HY := Aside0.mk hN2
      have HOY := Aside0.mk hoy
      have HX2 := Aside0.mk (nums_fr HX.out hF2 id (fun _ _ => id))
      have HF2 := Aside0.mk (HF1.out.trans hF2 (fun _ _ hf => hf))
      have HLT1 := Aside0.mk (fun k (hk : svx.ownBlock = some k) => row_lt HX.out.row k hk)
      have hs1 : w.heap.size < W1.heap.size := blk_lt HX.out.blk
      clear hN2 hA2 hF2 hall hoy HX HF1
      go_wp2_with (fail)
      refine (numbers_calls _ xs A c (HF2.out.C (S := fun _ => False) 0 HR.out (fun _ _ _ => id))).mono ?_
      rintro e _ ⟨⟨b, rfl, hb⟩, rfl⟩
      obtain rfl : b = true := hb.2 HA.out
      clear hb
      go_wp2_with (fail)
      refine (numbers_calls _ ys A' c' (HF2.out.C (S := fun _ => False) 0 HR'.out (fun _ _ _ => id))).mono ?_
      rintro e _ ⟨⟨b, rfl, hb⟩, rfl⟩
      obtain rfl : b = true := hb.2 HB.out
      clear hb
      go_wp2_with (fail)
      refine (numbers_calls _ xs A c (HF2.out.C (S := fun _ => False) 0 HR.out (fun _ _ _ => id))).mono ?_
      rintro e _ ⟨⟨b, rfl, hb⟩, rfl⟩
      obtain rfl : b = true := hb.2 HA.out
      clear hb
      go_wp2_with (fail)
      refine (alive_calls _).mono ?_
      rintro e W3 ⟨rfl, hd⟩
      have hd3 := Aside0.mk hd
      have HF3 := Aside0.mk (HF2.out.trans hd (fun _ _ hf => hf))
      clear hd
      go_wp2_with (fail)
      have HT2 := Aside0.mk (show Two W2 w.heap.size w.heap.size W1.heap.size svx svy (.slice none 0 0) (.slice none 0 0) lx ly [] [] from
        ⟨HX2.out, ⟨HY.out.blk, Kd.R_lower HY.out.row (by omega)⟩, Nat.le_refl _, by omega, by omega, fun k hk hk2 => by have := HLT1.out k hk; have := HOY.out k hk2; omega, Kd.R_nil _ _ _ _ _, Kd.R_nil _ _ _ _ _⟩)
      have HT3 := Aside0.mk (HT2.out.fr hd3.out)
      have HT4 := Aside0.mk (HT3.out.fr ((Fr.refl (fun _ => False) W3).alloc (.cells #[.pointer (some ⟨w.heap.size, 0, none⟩), .pointer (some ⟨W1.heap.size, 0, none⟩)] 38)))
      have HF4 := Aside0.mk (HF3.out.alloc (.cells #[.pointer (some ⟨w.heap.size, 0, none⟩), .pointer (some ⟨W1.heap.size, 0, none⟩)] 38))
      have HA4 := Aside0.mk (blk_new W3 (.cells #[.pointer (some ⟨w.heap.size, 0, none⟩), .pointer (some ⟨W1.heap.size, 0, none⟩)] 38))
      have hs3 : w.heap.size ≤ W3.heap.size := HF3.out.size
      clear HT2 HT3 HX2 HY HOX HOY HLT1 hd3 HF2
      refine (radd_calls _ 0 (.slice none 0 0) [] xs A c (Kd.R_nil _ _ _ _ _) (Nat.zero_le _) (by intro i j h0 h1 h2; simp at h2; omega) (by simp) (HF4.out.C (S := fun _ => False) 0 HR.out (fun _ _ _ => id)) HT4.out.fresh).mono ?_
      rintro e W5 ⟨v1, us1, hR, hF, (⟨_, hinv, rfl⟩ | ⟨⟨y, hy, hb⟩, _⟩)⟩
      case inr => exact absurd (HA.out y hy) (by rw [hb]; decide)
      obtain rfl := add_same HI.out hinv
      obtain ⟨P1, p1, rfl⟩ := Kd.R_slice hR
      have HT5 := Aside0.mk (HT4.out.ref hF hR)
      have HF5 := Aside0.mk (HF4.out.trans hF (fun _ _ hf => hf))
      have HA5 := Aside0.mk (hF.blk HA4.out id)
      clear hR hF hinv HT4 HF4 HA4
      go_wp2_with (fail)
      have HT6 := Aside0.mk (HT5.out.fr ((Fr.refl (fun _ => False) W5).alloc (.cells #[.slice P1 lx.length p1] 40))).swap
      have HF6 := Aside0.mk (HF5.out.alloc (.cells #[.slice P1 lx.length p1] 40))
      have HA6 := Aside0.mk (blk_alloc HA5.out (.cells #[.slice P1 lx.length p1] 40))
      have HP6 := Aside0.mk (blk_new W5 (.cells #[.slice P1 lx.length p1] 40))
      clear HT5 HF5 HA5
      refine (radd_calls _ 0 (.slice none 0 0) [] ys A' c' (Kd.R_nil _ _ _ _ _) (Nat.zero_le _) (by intro i j h0 h1 h2; simp at h2; omega) (by simp) (HF6.out.C (S := fun _ => False) 0 HR'.out (fun _ _ _ => id)) HT6.out.fresh).mono ?_
      rintro e W7 ⟨v2, us2, hR, hF, (⟨_, hinv, rfl⟩ | ⟨⟨y, hy, hb⟩, _⟩)⟩
      case inr => exact absurd (HB.out y hy) (by rw [hb]; decide)
      obtain rfl := add_same HJ.out hinv
      obtain ⟨P2, p2, rfl⟩ := Kd.R_slice hR
      have HT7 := Aside0.mk (HT6.out.ref hF hR).swap
      have HF7 := Aside0.mk (HF6.out.trans hF (fun _ _ hf => hf))
      have HA7 := Aside0.mk (hF.blk HA6.out id)
      have HP7 := Aside0.mk (hF.blk HP6.out id)
      have hs5 := hF.size
      have hs7 := blk_lt HP7.out
      clear hR hF hinv HT6 HF6 HA6 HP6
      have hp7 := (blk_cell HP7.out 0).trans (show _ = some (Value.slice P1 lx.length p1) from rfl)
      have hp8 := (blk_cell (blk_alloc HP7.out (.cells #[.slice P2 ly.length p2] 40)) 0).trans (show _ = some (Value.slice P1 lx.length p1) from rfl)
      go_wp2_with (fail)
      have HT9 := Aside0.mk ((HT7.out.fr ((Fr.refl (fun _ => False) W7).alloc (.cells #[.slice P2 ly.length p2] 40))).fr ((Fr.refl (fun _ => False) _).alloc (.cells #[.slice P1 lx.length p1, .slice P2 ly.length p2] 43)))
      have HF9 := Aside0.mk (((HF7.out.alloc (.cells #[.slice P2 ly.length p2] 40)).alloc (.cells #[.slice P1 lx.length p1, .slice P2 ly.length p2] 43)).mono (T := fun k => w.heap.size ≤ k) (fun _ hf => hf.elim))
      have HD9 := Aside0.mk (Duo.mk0 (gr := W7.heap.size + 1) HT9.out (blk_alloc (blk_alloc HA7.out _) _) (by simpa using blk_new (W7.alloc (.cells #[.slice P2 ly.length p2] 40)) (.cells #[.slice P1 lx.length p1, .slice P2 ly.length p2] 43)) HI.out.rise HJ.out.rise HI.out.num HJ.out.num (by omega) (by have := blk_lt HA7.out; omega))
      clear HT7 HF7 HA7 HP7 HT9 hp7 hp8 HI HJ HA HB HR HR' HLT HLT'
      go_loopw [95] (fun a W => ∃ (i : Nat) (l m : List Int), a = .int .i64 i ∧ i ≤ ss.length ∧ Aside0 (Duo W w.heap.size W3.heap.size (W7.heap.size + 1) l m) ∧ Aside0 (Fr (fun k => w.heap.size ≤ k) w W)) (fun a _ => ss.length - (intOf a).toNat)
      case atStart => exact ⟨0, lx, ly, rfl, Nat.zero_le _, HD9, HF9⟩
      case round =>
        clear HD9 HF9
        obtain ⟨i, l, m, rfl, hi, HD, HF⟩ := hrel
        have hl := len_le HD.out.rl HD.out.nl
        have hm2 := len_le HD.out.rm HD.out.nm
        by_cases hlt : i < ss.length
        · obtain ⟨ad, B, cB, rfl, hx0, hx1, hx2, hx3, hCB⟩ := at_ac HS.out (i : Int) (by omega) (by omega)
          simp only [Int.toNat_natCast] at hx0 hx1 hx2 hx3 hCB
          have hb0 := World.block_lt_of_cell? w _ hx0
          have y0 := HF.out.cell hx0 (by omega)
          have y1 := HF.out.cell hx1 (by show ¬ w.heap.size ≤ (ad.add (i * 4)).block; omega)
          have y2 := HF.out.cell hx2 (by show ¬ w.heap.size ≤ (ad.add (i * 4)).block; omega)
          have y3 := HF.out.cell hx3 (by show ¬ w.heap.size ≤ (ad.add (i * 4)).block; omega)
          generalize hx : ss.getD i default = x at hx0 hx1 hx2 hx3 hCB y0 y1 y2 y3
          have HCB := Aside0.mk hCB
          clear hx hx0 hx1 hx2 hx3 hCB hb0
          go_wp2_with (fail)
          -- the region of the round (dl.py)
          have HBX := Aside0.mk (((Fr.refl (fun _ => False) wr).alloc (.cells #[.int .i64 x.kind, .int .i64 x.which, .int .i64 x.n, .slice B x.l.length cB] 45)).drew)
          have HFB := Aside0.mk (HF.out.trans HBX.out (fun _ _ hf => hf.elim))
          refine wp_region_held_drew (S := fun _ => True) (by kernel_rfl) trivial (fun hHeld => ?_)
          refine wpAnyH_ready (rs := [0]) (by kernel_rfl) (by simp) ?_
          refine AllReadyH.cons (o := ?o0) ?ho0 ?hs0 AllReadyH.nil
          case ho0 => (simp only [List.getElem?_toArray, List.getElem?_cons_zero]; rfl)
          intro K hK
          go_simp
          refine hK.out _ _ trivial (fun hHeld => ?_)
          clear hK K
          try simp only [Act.put, List.setIfInBounds_toArray, List.set_cons_zero, List.set_cons_succ]
          refine wpAnyH_ready (rs := [1]) (by kernel_rfl) (by simp) ?_
          refine AllReadyH.cons (o := ?o1) ?ho1 ?hs1 AllReadyH.nil
          case ho1 => (simp only [List.getElem?_toArray, List.getElem?_cons_succ, List.getElem?_cons_zero]; rfl)
          intro K hK
          go_simp
          refine (does_calls _ w.heap.size W3.heap.size (W7.heap.size + 1) x.kind x.which x.n B cB x.l l m (HD.out.fr HBX.out) (by have := HBX.out.size; have := HF.out.size; omega) (HFB.out.C (S := fun k => w.heap.size ≤ k) 0 HCB.out (fun ad2 e hp => by have := Tables.first_lt HCB.out ad2 e hp; omega)) (Tables.first_lt HCB.out) (HT.out.fr HFB.out (fun _ h1 h2 => by omega))).mono ?_
          rintro e W11 ⟨rfl, l1, m1, hD, hF⟩
          have HF11 := Aside0.mk (HFB.out.trans hF (fun _ _ h => h))
          obtain ⟨g, h, s, t, v, u, T, ha, hr⟩ := hD.ex
          obtain ⟨V0, d0, rfl⟩ := Kd.R_slice T.rx
          obtain ⟨V1, d1, rfl⟩ := Kd.R_slice T.ry
          have HN := Aside0.mk (show Now W11 w.heap.size W3.heap.size (W7.heap.size + 1) g h s t (.slice V0 l1.length d0) (.slice V1 m1.length d1) l1 m1 from ⟨T, ha, hr⟩)
          have HD11 := Aside0.mk hD
          have hl1 := len_le hD.rl hD.nl
          have hm1 := len_le hD.rm hD.nm
          clear T ha hr hF hD HF HFB HBX HCB HD hl hm2
          have HF := HF11
          clear HF11
          dsimp only
          refine hK.out _ _ trivial (fun hHeld => ?_)
          clear hK K
          try simp only [Act.put, List.setIfInBounds_toArray, List.set_cons_zero, List.set_cons_succ]
          refine wpAnyH_ready (rs := [2]) (by kernel_rfl) (by simp) ?_
          refine AllReadyH.cons (o := ?o2) ?ho2 ?hs2 AllReadyH.nil
          case ho2 => (simp only [List.getElem?_toArray, List.getElem?_cons_succ, List.getElem?_cons_zero]; rfl)
          intro K hK
          go_simp
          refine hK.out _ _ trivial (fun hHeld => ?_)
          clear hK K
          try simp only [Act.put, List.setIfInBounds_toArray, List.set_cons_zero, List.set_cons_succ]
          refine wpAnyH_ready (rs := [3]) (by kernel_rfl) (by simp) ?_
          refine AllReadyH.cons (o := ?o3) ?ho3 ?hs3 AllReadyH.nil
          case ho3 => (simp only [List.getElem?_toArray, List.getElem?_cons_succ, List.getElem?_cons_zero]; rfl)
          intro K hK
          go_simp
          refine hK.out _ _ trivial (fun hHeld => ?_)
          clear hK K
          try simp only [Act.put, List.setIfInBounds_toArray, List.set_cons_zero, List.set_cons_succ]
          refine wpAnyH_imp (S1 := fun w' => w'.cell? ⟨W3.heap.size, 0, none⟩ = some (.pointer (some ⟨g, 0, none⟩)) ∧ w'.cell? ⟨W3.heap.size, 1, none⟩ = some (.pointer (some ⟨h, 0, none⟩)) ∧ w'.cell? ⟨W7.heap.size + 1, 0, none⟩ = some (.slice V0 l1.length d0) ∧ w'.cell? ⟨W7.heap.size + 1, 1, none⟩ = some (.slice V1 m1.length d1)) (fun _ _ => trivial) _ _ _ _ ?_
          have hHeld := HN.out.cells
          refine wpAnyH_take (i := 4) (oi := ?o4) (v := ?v4) ?ho4 (by kernel_rfl) (by kernel_rfl) (by kernel_rfl) ?hq4 ?hy4 (by assumption) ?rest4
          case ho4 => (simp only [List.getElem?_toArray, List.getElem?_cons_succ, List.getElem?_cons_zero]; rfl)
          case hq4 => exact fun _ _ _ h => h
          case hy4 => (refine Or.inl ⟨by rfl, ?_⟩; intro w0 hSw; (try dsimp only at hSw); go_simp; try with_reducible rfl)
          try simp only [Act.put, List.setIfInBounds_toArray, List.set_cons_zero, List.set_cons_succ]
          refine wpAnyH_take (i := 5) (oi := ?o5) (v := ?v5) ?ho5 (by kernel_rfl) (by kernel_rfl) (by kernel_rfl) ?hq5 ?hy5 (by assumption) ?rest5
          case ho5 => (simp only [List.getElem?_toArray, List.getElem?_cons_succ, List.getElem?_cons_zero]; rfl)
          case hq5 => exact fun _ _ _ h => h
          case hy5 => (refine Or.inl ⟨by rfl, ?_⟩; intro w0 hSw; (try dsimp only at hSw); go_simp; try with_reducible rfl)
          try simp only [Act.put, List.setIfInBounds_toArray, List.set_cons_zero, List.set_cons_succ]
          refine wpAnyH_take (i := 7) (oi := ?o7) (v := ?v7) ?ho7 (by kernel_rfl) (by kernel_rfl) (by kernel_rfl) ?hq7 ?hy7 (by assumption) ?rest7
          case ho7 => (simp only [List.getElem?_toArray, List.getElem?_cons_succ, List.getElem?_cons_zero]; rfl)
          case hq7 => exact fun _ _ _ h => h
          case hy7 => (refine Or.inl ⟨by rfl, ?_⟩; intro w0 hSw; (try dsimp only at hSw); go_simp; try with_reducible rfl)
          try simp only [Act.put, List.setIfInBounds_toArray, List.set_cons_zero, List.set_cons_succ]
          refine wpAnyH_take (i := 8) (oi := ?o8) (v := ?v8) ?ho8 (by kernel_rfl) (by kernel_rfl) (by kernel_rfl) ?hq8 ?hy8 (by assumption) ?rest8
          case ho8 => (simp only [List.getElem?_toArray, List.getElem?_cons_succ, List.getElem?_cons_zero]; rfl)
          case hq8 => exact fun _ _ _ h => h
          case hy8 => (refine Or.inl ⟨by rfl, ?_⟩; intro w0 hSw; (try dsimp only at hSw); go_simp; try with_reducible rfl)
          try simp only [Act.put, List.setIfInBounds_toArray, List.set_cons_zero, List.set_cons_succ]
          refine wpAnyH_take (i := 9) (oi := ?o9) (v := ?v9) ?ho9 (by kernel_rfl) (by kernel_rfl) (by kernel_rfl) ?hq9 ?hy9 (by assumption) ?rest9
          case ho9 => (simp only [List.getElem?_toArray, List.getElem?_cons_succ, List.getElem?_cons_zero]; rfl)
          case hq9 => exact fun _ _ _ h => h
          case hy9 => (refine Or.inl ⟨by rfl, ?_⟩; intro w0 hSw; (try dsimp only at hSw); go_simp; try with_reducible rfl)
          try simp only [Act.put, List.setIfInBounds_toArray, List.set_cons_zero, List.set_cons_succ]
          refine wpAnyH_ready (rs := [6]) (by kernel_rfl) (by simp) ?_
          refine AllReadyH.cons (o := ?o6) ?ho6 ?hs6 AllReadyH.nil
          case ho6 => (simp only [List.getElem?_toArray, List.getElem?_cons_succ, List.getElem?_cons_zero]; rfl)
          intro K hK
          go_simp
          refine (all_calls _ w.heap.size g s l1 HN.out.two.x (by omega)).mono ?_
          rintro e W12 ⟨va, rfl, hva, hd⟩
          obtain ⟨VA, da, rfl⟩ := Kd.R_slice hva
          have HVA := Aside0.mk (R_C hva)
          clear hva
          have HN12 := Aside0.mk (HN.out.fr hd)
          have HF12 := Aside0.mk (HF.out.trans hd (fun _ _ hf => hf.elim))
          clear HN HF hd
          have HN := HN12
          have HF := HF12
          clear HN12 HF12
          dsimp only
          refine hK.out _ _ HN.out.cells (fun hHeld => ?_)
          clear hK K
          try simp only [Act.put, List.setIfInBounds_toArray, List.set_cons_zero, List.set_cons_succ]
          refine wpAnyH_ready (rs := [10]) (by kernel_rfl) (by simp) ?_
          refine AllReadyH.cons (o := ?o10) ?ho10 ?hs10 AllReadyH.nil
          case ho10 => (simp only [List.getElem?_toArray, List.getElem?_cons_succ, List.getElem?_cons_zero]; rfl)
          intro K hK
          go_simp
          refine (same_calls _ l1 l1 VA V0 da d0 HVA.out (R_C HN.out.two.rx)).mono ?_
          rintro e W13 ⟨rfl, hd⟩
          rw [show decide (l1 = l1) = true from decide_eq_true rfl]
          replace hd := Fr.drawn (S := fun _ => False) hd
          clear HVA
          have HN13 := Aside0.mk (HN.out.fr hd)
          have HF13 := Aside0.mk (HF.out.trans hd (fun _ _ hf => hf.elim))
          clear HN HF hd
          have HN := HN13
          have HF := HF13
          clear HN13 HF13
          dsimp only
          refine hK.out _ _ HN.out.cells (fun hHeld => ?_)
          clear hK K
          try simp only [Act.put, List.setIfInBounds_toArray, List.set_cons_zero, List.set_cons_succ]
          refine wpAnyH_take (i := 11) (oi := ?o11) (v := ?v11) ?ho11 (by kernel_rfl) (by kernel_rfl) (by kernel_rfl) ?hq11 ?hy11 (by assumption) ?rest11
          case ho11 => (simp only [List.getElem?_toArray, List.getElem?_cons_succ, List.getElem?_cons_zero]; rfl)
          case hq11 => exact fun _ _ _ h => h
          case hy11 => (refine Or.inl ⟨by rfl, ?_⟩; intro w0 hSw; (try dsimp only at hSw); go_simp; try with_reducible rfl)
          try simp only [Act.put, List.setIfInBounds_toArray, List.set_cons_zero, List.set_cons_succ]
          refine wpAnyH_take (i := 12) (oi := ?o12) (v := ?v12) ?ho12 (by kernel_rfl) (by kernel_rfl) (by kernel_rfl) ?hq12 ?hy12 (by assumption) ?rest12
          case ho12 => (simp only [List.getElem?_toArray, List.getElem?_cons_succ, List.getElem?_cons_zero]; rfl)
          case hq12 => exact fun _ _ _ h => h
          case hy12 => (refine Or.inl ⟨by rfl, ?_⟩; intro w0 hSw; (try dsimp only at hSw); go_simp; try with_reducible rfl)
          try simp only [Act.put, List.setIfInBounds_toArray, List.set_cons_zero, List.set_cons_succ]
          refine wpAnyH_take (i := 13) (oi := ?o13) (v := ?v13) ?ho13 (by kernel_rfl) (by kernel_rfl) (by kernel_rfl) ?hq13 ?hy13 (by assumption) ?rest13
          case ho13 => (simp only [List.getElem?_toArray, List.getElem?_cons_succ, List.getElem?_cons_zero]; rfl)
          case hq13 => exact fun _ _ _ h => h
          case hy13 => (refine Or.inl ⟨by rfl, ?_⟩; intro w0 hSw; (try dsimp only at hSw); go_simp; try with_reducible rfl)
          try simp only [Act.put, List.setIfInBounds_toArray, List.set_cons_zero, List.set_cons_succ]
          refine wpAnyH_take (i := 14) (oi := ?o14) (v := ?v14) ?ho14 (by kernel_rfl) (by kernel_rfl) (by kernel_rfl) ?hq14 ?hy14 (by assumption) ?rest14
          case ho14 => (simp only [List.getElem?_toArray, List.getElem?_cons_succ, List.getElem?_cons_zero]; rfl)
          case hq14 => exact fun _ _ _ h => h
          case hy14 => (refine Or.inl ⟨by rfl, ?_⟩; intro w0 hSw; (try dsimp only at hSw); go_simp; try with_reducible rfl)
          try simp only [Act.put, List.setIfInBounds_toArray, List.set_cons_zero, List.set_cons_succ]
          refine wpAnyH_take (i := 15) (oi := ?o15) (v := ?v15) ?ho15 (by kernel_rfl) (by kernel_rfl) (by kernel_rfl) ?hq15 ?hy15 (by assumption) ?rest15
          case ho15 => (simp only [List.getElem?_toArray, List.getElem?_cons_succ, List.getElem?_cons_zero]; rfl)
          case hq15 => exact fun _ _ _ h => h
          case hy15 => (refine Or.inl ⟨by rfl, ?_⟩; intro w0 hSw; (try dsimp only at hSw); go_simp; try with_reducible rfl)
          try simp only [Act.put, List.setIfInBounds_toArray, List.set_cons_zero, List.set_cons_succ]
          refine wpAnyH_take (i := 17) (oi := ?o17) (v := ?v17) ?ho17 (by kernel_rfl) (by kernel_rfl) (by kernel_rfl) ?hq17 ?hy17 (by assumption) ?rest17
          case ho17 => (simp only [List.getElem?_toArray, List.getElem?_cons_succ, List.getElem?_cons_zero]; rfl)
          case hq17 => exact fun _ _ _ h => h
          case hy17 => (refine Or.inl ⟨by rfl, ?_⟩; intro w0 hSw; (try dsimp only at hSw); go_simp; try with_reducible rfl)
          try simp only [Act.put, List.setIfInBounds_toArray, List.set_cons_zero, List.set_cons_succ]
          refine wpAnyH_take (i := 18) (oi := ?o18) (v := ?v18) ?ho18 (by kernel_rfl) (by kernel_rfl) (by kernel_rfl) ?hq18 ?hy18 (by assumption) ?rest18
          case ho18 => (simp only [List.getElem?_toArray, List.getElem?_cons_succ, List.getElem?_cons_zero]; rfl)
          case hq18 => exact fun _ _ _ h => h
          case hy18 => (refine Or.inl ⟨by rfl, ?_⟩; intro w0 hSw; (try dsimp only at hSw); go_simp; try with_reducible rfl)
          try simp only [Act.put, List.setIfInBounds_toArray, List.set_cons_zero, List.set_cons_succ]
          refine wpAnyH_take (i := 19) (oi := ?o19) (v := ?v19) ?ho19 (by kernel_rfl) (by kernel_rfl) (by kernel_rfl) ?hq19 ?hy19 (by assumption) ?rest19
          case ho19 => (simp only [List.getElem?_toArray, List.getElem?_cons_succ, List.getElem?_cons_zero]; rfl)
          case hq19 => exact fun _ _ _ h => h
          case hy19 => (refine Or.inl ⟨by rfl, ?_⟩; intro w0 hSw; (try dsimp only at hSw); go_simp; try with_reducible rfl)
          try simp only [Act.put, List.setIfInBounds_toArray, List.set_cons_zero, List.set_cons_succ]
          refine wpAnyH_ready (rs := [16]) (by kernel_rfl) (by simp) ?_
          refine AllReadyH.cons (o := ?o16) ?ho16 ?hs16 AllReadyH.nil
          case ho16 => (simp only [List.getElem?_toArray, List.getElem?_cons_succ, List.getElem?_cons_zero]; rfl)
          intro K hK
          go_simp
          refine (all_calls _ w.heap.size h t m1 HN.out.two.y (by omega)).mono ?_
          rintro e W14 ⟨va, rfl, hva, hd⟩
          obtain ⟨VA, da, rfl⟩ := Kd.R_slice hva
          have HVA := Aside0.mk (R_C hva)
          clear hva
          have HN14 := Aside0.mk (HN.out.fr hd)
          have HF14 := Aside0.mk (HF.out.trans hd (fun _ _ hf => hf.elim))
          clear HN HF hd
          have HN := HN14
          have HF := HF14
          clear HN14 HF14
          dsimp only
          refine hK.out _ _ HN.out.cells (fun hHeld => ?_)
          clear hK K
          try simp only [Act.put, List.setIfInBounds_toArray, List.set_cons_zero, List.set_cons_succ]
          refine wpAnyH_ready (rs := [20]) (by kernel_rfl) (by simp) ?_
          refine AllReadyH.cons (o := ?o20) ?ho20 ?hs20 AllReadyH.nil
          case ho20 => (simp only [List.getElem?_toArray, List.getElem?_cons_succ, List.getElem?_cons_zero]; rfl)
          intro K hK
          go_simp
          refine (same_calls _ m1 m1 VA V1 da d1 HVA.out (R_C HN.out.two.ry)).mono ?_
          rintro e W15 ⟨rfl, hd⟩
          rw [show decide (m1 = m1) = true from decide_eq_true rfl]
          replace hd := Fr.drawn (S := fun _ => False) hd
          clear HVA
          have HN15 := Aside0.mk (HN.out.fr hd)
          have HF15 := Aside0.mk (HF.out.trans hd (fun _ _ hf => hf.elim))
          clear HN HF hd
          have HN := HN15
          have HF := HF15
          clear HN15 HF15
          dsimp only
          refine hK.out _ _ HN.out.cells (fun hHeld => ?_)
          clear hK K
          try simp only [Act.put, List.setIfInBounds_toArray, List.set_cons_zero, List.set_cons_succ]
          refine wpAnyH_take (i := 21) (oi := ?o21) (v := ?v21) ?ho21 (by kernel_rfl) (by kernel_rfl) (by kernel_rfl) ?hq21 ?hy21 (by assumption) ?rest21
          case ho21 => (simp only [List.getElem?_toArray, List.getElem?_cons_succ, List.getElem?_cons_zero]; rfl)
          case hq21 => exact fun _ _ _ h => h
          case hy21 => (refine Or.inl ⟨by rfl, ?_⟩; intro w0 hSw; (try dsimp only at hSw); go_simp; try with_reducible rfl)
          try simp only [Act.put, List.setIfInBounds_toArray, List.set_cons_zero, List.set_cons_succ]
          refine wpAnyH_take (i := 22) (oi := ?o22) (v := ?v22) ?ho22 (by kernel_rfl) (by kernel_rfl) (by kernel_rfl) ?hq22 ?hy22 (by assumption) ?rest22
          case ho22 => (simp only [List.getElem?_toArray, List.getElem?_cons_succ, List.getElem?_cons_zero]; rfl)
          case hq22 => exact fun _ _ _ h => h
          case hy22 => (refine Or.inl ⟨by rfl, ?_⟩; intro w0 hSw; (try dsimp only at hSw); go_simp; try with_reducible rfl)
          try simp only [Act.put, List.setIfInBounds_toArray, List.set_cons_zero, List.set_cons_succ]
          refine wpAnyH_take (i := 23) (oi := ?o23) (v := ?v23) ?ho23 (by kernel_rfl) (by kernel_rfl) (by kernel_rfl) ?hq23 ?hy23 (by assumption) ?rest23
          case ho23 => (simp only [List.getElem?_toArray, List.getElem?_cons_succ, List.getElem?_cons_zero]; rfl)
          case hq23 => exact fun _ _ _ h => h
          case hy23 => (refine Or.inl ⟨by rfl, ?_⟩; intro w0 hSw; (try dsimp only at hSw); go_simp; try with_reducible rfl)
          try simp only [Act.put, List.setIfInBounds_toArray, List.set_cons_zero, List.set_cons_succ]
          refine wpAnyH_take (i := 24) (oi := ?o24) (v := ?v24) ?ho24 (by kernel_rfl) (by kernel_rfl) (by kernel_rfl) ?hq24 ?hy24 (by assumption) ?rest24
          case ho24 => (simp only [List.getElem?_toArray, List.getElem?_cons_succ, List.getElem?_cons_zero]; rfl)
          case hq24 => exact fun _ _ _ h => h
          case hy24 => (refine Or.inl ⟨by rfl, ?_⟩; intro w0 hSw; (try dsimp only at hSw); go_simp; try with_reducible rfl)
          try simp only [Act.put, List.setIfInBounds_toArray, List.set_cons_zero, List.set_cons_succ]
          refine wpAnyH_take (i := 25) (oi := ?o25) (v := ?v25) ?ho25 (by kernel_rfl) (by kernel_rfl) (by kernel_rfl) ?hq25 ?hy25 (by assumption) ?rest25
          case ho25 => (simp only [List.getElem?_toArray, List.getElem?_cons_succ, List.getElem?_cons_zero]; rfl)
          case hq25 => exact fun _ _ _ h => h
          case hy25 => (refine Or.inl ⟨by rfl, ?_⟩; intro w0 hSw; (try dsimp only at hSw); go_simp; try with_reducible rfl)
          try simp only [Act.put, List.setIfInBounds_toArray, List.set_cons_zero, List.set_cons_succ]
          refine wpAnyH_take (i := 27) (oi := ?o27) (v := ?v27) ?ho27 (by kernel_rfl) (by kernel_rfl) (by kernel_rfl) ?hq27 ?hy27 (by assumption) ?rest27
          case ho27 => (simp only [List.getElem?_toArray, List.getElem?_cons_succ, List.getElem?_cons_zero]; rfl)
          case hq27 => exact fun _ _ _ h => h
          case hy27 => (refine Or.inl ⟨by rfl, ?_⟩; intro w0 hSw; (try dsimp only at hSw); go_simp; try with_reducible rfl)
          try simp only [Act.put, List.setIfInBounds_toArray, List.set_cons_zero, List.set_cons_succ]
          refine wpAnyH_take (i := 28) (oi := ?o28) (v := ?v28) ?ho28 (by kernel_rfl) (by kernel_rfl) (by kernel_rfl) ?hq28 ?hy28 (by assumption) ?rest28
          case ho28 => (simp only [List.getElem?_toArray, List.getElem?_cons_succ, List.getElem?_cons_zero]; rfl)
          case hq28 => exact fun _ _ _ h => h
          case hy28 => (refine Or.inl ⟨by rfl, ?_⟩; intro w0 hSw; (try dsimp only at hSw); go_simp; try with_reducible rfl)
          try simp only [Act.put, List.setIfInBounds_toArray, List.set_cons_zero, List.set_cons_succ]
          refine wpAnyH_take (i := 29) (oi := ?o29) (v := ?v29) ?ho29 (by kernel_rfl) (by kernel_rfl) (by kernel_rfl) ?hq29 ?hy29 (by assumption) ?rest29
          case ho29 => (simp only [List.getElem?_toArray, List.getElem?_cons_succ, List.getElem?_cons_zero]; rfl)
          case hq29 => exact fun _ _ _ h => h
          case hy29 => (refine Or.inl ⟨by rfl, ?_⟩; intro w0 hSw; (try dsimp only at hSw); go_simp; try with_reducible rfl)
          try simp only [Act.put, List.setIfInBounds_toArray, List.set_cons_zero, List.set_cons_succ]
          refine wpAnyH_take (i := 30) (oi := ?o30) (v := ?v30) ?ho30 (by kernel_rfl) (by kernel_rfl) (by kernel_rfl) ?hq30 ?hy30 (by assumption) ?rest30
          case ho30 => (simp only [List.getElem?_toArray, List.getElem?_cons_succ, List.getElem?_cons_zero]; rfl)
          case hq30 => exact fun _ _ _ h => h
          case hy30 => (refine Or.inl ⟨by rfl, ?_⟩; intro w0 hSw; (try dsimp only at hSw); go_simp; try with_reducible rfl)
          try simp only [Act.put, List.setIfInBounds_toArray, List.set_cons_zero, List.set_cons_succ]
          refine wpAnyH_ready (rs := [26]) (by kernel_rfl) (by simp) ?_
          refine AllReadyH.cons (o := ?o26) ?ho26 ?hs26 AllReadyH.nil
          case ho26 => (simp only [List.getElem?_toArray, List.getElem?_cons_succ, List.getElem?_cons_zero]; rfl)
          intro K hK
          go_simp
          refine (slen_calls _ w.heap.size g s l1 HN.out.two.x).mono ?_
          rintro e _ ⟨rfl, rfl⟩
          dsimp only
          refine hK.out _ _ HN.out.cells (fun hHeld => ?_)
          clear hK K
          try simp only [Act.put, List.setIfInBounds_toArray, List.set_cons_zero, List.set_cons_succ]
          refine wpAnyH_take (i := 31) (oi := ?o31) (v := ?v31) ?ho31 (by kernel_rfl) (by kernel_rfl) (by kernel_rfl) ?hq31 ?hy31 (by assumption) ?rest31
          case ho31 => (simp only [List.getElem?_toArray, List.getElem?_cons_succ, List.getElem?_cons_zero]; rfl)
          case hq31 => exact fun _ _ _ h => h
          case hy31 => (refine Or.inl ⟨by rfl, ?_⟩; intro w0 hSw; (try dsimp only at hSw); go_simp; try with_reducible rfl)
          try simp only [Act.put, List.setIfInBounds_toArray, List.set_cons_zero, List.set_cons_succ]
          refine wpAnyH_take (i := 32) (oi := ?o32) (v := ?v32) ?ho32 (by kernel_rfl) (by kernel_rfl) (by kernel_rfl) ?hq32 ?hy32 (by assumption) ?rest32
          case ho32 => (simp only [List.getElem?_toArray, List.getElem?_cons_succ, List.getElem?_cons_zero]; rfl)
          case hq32 => exact fun _ _ _ h => h
          case hy32 => (refine Or.inl ⟨by rfl, ?_⟩; intro w0 hSw; (try dsimp only at hSw); go_simp; try with_reducible rfl)
          try simp only [Act.put, List.setIfInBounds_toArray, List.set_cons_zero, List.set_cons_succ]
          refine wpAnyH_take (i := 33) (oi := ?o33) (v := ?v33) ?ho33 (by kernel_rfl) (by kernel_rfl) (by kernel_rfl) ?hq33 ?hy33 (by assumption) ?rest33
          case ho33 => (simp only [List.getElem?_toArray, List.getElem?_cons_succ, List.getElem?_cons_zero]; rfl)
          case hq33 => exact fun _ _ _ h => h
          case hy33 => (refine Or.inl ⟨by rfl, ?_⟩; intro w0 hSw; (try dsimp only at hSw); go_simp; try with_reducible rfl)
          try simp only [Act.put, List.setIfInBounds_toArray, List.set_cons_zero, List.set_cons_succ]
          refine wpAnyH_take (i := 34) (oi := ?o34) (v := ?v34) ?ho34 (by kernel_rfl) (by kernel_rfl) (by kernel_rfl) ?hq34 ?hy34 (by assumption) ?rest34
          case ho34 => (simp only [List.getElem?_toArray, List.getElem?_cons_succ, List.getElem?_cons_zero]; rfl)
          case hq34 => exact fun _ _ _ h => h
          case hy34 => (refine Or.inl ⟨by rfl, ?_⟩; intro w0 hSw; (try dsimp only at hSw); go_simp; try with_reducible rfl)
          try simp only [Act.put, List.setIfInBounds_toArray, List.set_cons_zero, List.set_cons_succ]
          refine wpAnyH_take (i := 35) (oi := ?o35) (v := ?v35) ?ho35 (by kernel_rfl) (by kernel_rfl) (by kernel_rfl) ?hq35 ?hy35 (by assumption) ?rest35
          case ho35 => (simp only [List.getElem?_toArray, List.getElem?_cons_succ, List.getElem?_cons_zero]; rfl)
          case hq35 => exact fun _ _ _ h => h
          case hy35 => (refine Or.inl ⟨by rfl, ?_⟩; intro w0 hSw; (try dsimp only at hSw); go_simp; try with_reducible rfl)
          try simp only [Act.put, List.setIfInBounds_toArray, List.set_cons_zero, List.set_cons_succ]
          refine wpAnyH_take (i := 37) (oi := ?o37) (v := ?v37) ?ho37 (by kernel_rfl) (by kernel_rfl) (by kernel_rfl) ?hq37 ?hy37 (by assumption) ?rest37
          case ho37 => (simp only [List.getElem?_toArray, List.getElem?_cons_succ, List.getElem?_cons_zero]; rfl)
          case hq37 => exact fun _ _ _ h => h
          case hy37 => (refine Or.inl ⟨by rfl, ?_⟩; intro w0 hSw; (try dsimp only at hSw); go_simp; try with_reducible rfl)
          try simp only [Act.put, List.setIfInBounds_toArray, List.set_cons_zero, List.set_cons_succ]
          refine wpAnyH_take (i := 38) (oi := ?o38) (v := ?v38) ?ho38 (by kernel_rfl) (by kernel_rfl) (by kernel_rfl) ?hq38 ?hy38 (by assumption) ?rest38
          case ho38 => (simp only [List.getElem?_toArray, List.getElem?_cons_succ, List.getElem?_cons_zero]; rfl)
          case hq38 => exact fun _ _ _ h => h
          case hy38 => (refine Or.inl ⟨by rfl, ?_⟩; intro w0 hSw; (try dsimp only at hSw); go_simp; try with_reducible rfl)
          try simp only [Act.put, List.setIfInBounds_toArray, List.set_cons_zero, List.set_cons_succ]
          refine wpAnyH_take (i := 39) (oi := ?o39) (v := ?v39) ?ho39 (by kernel_rfl) (by kernel_rfl) (by kernel_rfl) ?hq39 ?hy39 (by assumption) ?rest39
          case ho39 => (simp only [List.getElem?_toArray, List.getElem?_cons_succ, List.getElem?_cons_zero]; rfl)
          case hq39 => exact fun _ _ _ h => h
          case hy39 => (refine Or.inl ⟨by rfl, ?_⟩; intro w0 hSw; (try dsimp only at hSw); go_simp; try with_reducible rfl)
          try simp only [Act.put, List.setIfInBounds_toArray, List.set_cons_zero, List.set_cons_succ]
          refine wpAnyH_take (i := 40) (oi := ?o40) (v := ?v40) ?ho40 (by kernel_rfl) (by kernel_rfl) (by kernel_rfl) ?hq40 ?hy40 (by assumption) ?rest40
          case ho40 => (simp only [List.getElem?_toArray, List.getElem?_cons_succ, List.getElem?_cons_zero]; rfl)
          case hq40 => exact fun _ _ _ h => h
          case hy40 => (refine Or.inl ⟨by rfl, ?_⟩; intro w0 hSw; (try dsimp only at hSw); go_simp; try with_reducible rfl)
          try simp only [Act.put, List.setIfInBounds_toArray, List.set_cons_zero, List.set_cons_succ]
          refine wpAnyH_ready (rs := [36]) (by kernel_rfl) (by simp) ?_
          refine AllReadyH.cons (o := ?o36) ?ho36 ?hs36 AllReadyH.nil
          case ho36 => (simp only [List.getElem?_toArray, List.getElem?_cons_succ, List.getElem?_cons_zero]; rfl)
          intro K hK
          go_simp
          refine (slen_calls _ w.heap.size h t m1 HN.out.two.y).mono ?_
          rintro e _ ⟨rfl, rfl⟩
          dsimp only
          refine hK.out _ _ HN.out.cells (fun hHeld => ?_)
          clear hK K
          try simp only [Act.put, List.setIfInBounds_toArray, List.set_cons_zero, List.set_cons_succ]
          refine wpAnyH_take (i := 41) (oi := ?o41) (v := ?v41) ?ho41 (by kernel_rfl) (by kernel_rfl) (by kernel_rfl) ?hq41 ?hy41 (by assumption) ?rest41
          case ho41 => (simp only [List.getElem?_toArray, List.getElem?_cons_succ, List.getElem?_cons_zero]; rfl)
          case hq41 => exact fun _ _ _ h => h
          case hy41 => (refine Or.inl ⟨by rfl, ?_⟩; intro w0 hSw; (try dsimp only at hSw); go_simp; try with_reducible rfl)
          try simp only [Act.put, List.setIfInBounds_toArray, List.set_cons_zero, List.set_cons_succ]
          refine wpAnyH_take (i := 42) (oi := ?o42) (v := ?v42) ?ho42 (by kernel_rfl) (by kernel_rfl) (by kernel_rfl) ?hq42 ?hy42 (by assumption) ?rest42
          case ho42 => (simp only [List.getElem?_toArray, List.getElem?_cons_succ, List.getElem?_cons_zero]; rfl)
          case hq42 => exact fun _ _ _ h => h
          case hy42 => (refine Or.inl ⟨by rfl, ?_⟩; intro w0 hSw; (try dsimp only at hSw); go_simp; try with_reducible rfl)
          try simp only [Act.put, List.setIfInBounds_toArray, List.set_cons_zero, List.set_cons_succ]
          refine wpAnyH_done (by kernel_rfl) ?_ _
          -- behind the region (dl.py)
          go_wp2_with (fail)
          have HDZ := Aside0.mk (Duo.mk0 HN.out.two HN.out.a HN.out.r HD11.out.rl HD11.out.rm HD11.out.nl HD11.out.nm HD11.out.ta HD11.out.tr)
          exact ⟨⟨i + 1, l1, m1, by go_num, by omega, HDZ, HF⟩, by simp [intOf]; omega⟩
        · obtain ⟨g, h, s, t, v, u, T, ha, hr⟩ := HD.out.ex
          obtain ⟨V0, d0, rfl⟩ := Kd.R_slice T.rx
          obtain ⟨V1, d1, rfl⟩ := Kd.R_slice T.ry
          have HN := Aside0.mk ((show Now wr w.heap.size W3.heap.size (W7.heap.size + 1) g h s t (.slice V0 l.length d0) (.slice V1 m.length d1) l m from ⟨T, ha, hr⟩).fr (Fr.refl (fun _ => False) _).drew)
          have HF := Aside0.mk HF.out.drew
          have hcc := HN.out.cells
          clear T ha hr HD
          go_wp2_with (fail)
          -- the return's region (dl.py)
          refine wp_region_held_drew (S := fun w' => w'.cell? ⟨W3.heap.size, 0, none⟩ = some (.pointer (some ⟨g, 0, none⟩)) ∧ w'.cell? ⟨W3.heap.size, 1, none⟩ = some (.pointer (some ⟨h, 0, none⟩)) ∧ w'.cell? ⟨W7.heap.size + 1, 0, none⟩ = some (.slice V0 l.length d0) ∧ w'.cell? ⟨W7.heap.size + 1, 1, none⟩ = some (.slice V1 m.length d1)) (by kernel_rfl) HN.out.cells (fun hHeld => ?_)
          refine wpAnyH_take (i := 0) (oi := ?or0) (v := ?vr0) ?hor0 (by kernel_rfl) (by kernel_rfl) (by kernel_rfl) ?hqr0 ?hyr0 (by assumption) ?restr0
          case hor0 => (simp only [List.getElem?_toArray, List.getElem?_cons_zero]; rfl)
          case hqr0 => exact fun _ _ _ h => h
          case hyr0 => (refine Or.inl ⟨by rfl, ?_⟩; intro w0 hSw; (try dsimp only at hSw); go_simp; try with_reducible rfl)
          try simp only [Act.put, List.setIfInBounds_toArray, List.set_cons_zero, List.set_cons_succ]
          refine wpAnyH_take (i := 1) (oi := ?or1) (v := ?vr1) ?hor1 (by kernel_rfl) (by kernel_rfl) (by kernel_rfl) ?hqr1 ?hyr1 (by assumption) ?restr1
          case hor1 => (simp only [List.getElem?_toArray, List.getElem?_cons_succ, List.getElem?_cons_zero]; rfl)
          case hqr1 => exact fun _ _ _ h => h
          case hyr1 => (refine Or.inl ⟨by rfl, ?_⟩; intro w0 hSw; (try dsimp only at hSw); go_simp; try with_reducible rfl)
          try simp only [Act.put, List.setIfInBounds_toArray, List.set_cons_zero, List.set_cons_succ]
          refine wpAnyH_take (i := 3) (oi := ?or3) (v := ?vr3) ?hor3 (by kernel_rfl) (by kernel_rfl) (by kernel_rfl) ?hqr3 ?hyr3 (by assumption) ?restr3
          case hor3 => (simp only [List.getElem?_toArray, List.getElem?_cons_succ, List.getElem?_cons_zero]; rfl)
          case hqr3 => exact fun _ _ _ h => h
          case hyr3 => (refine Or.inl ⟨by rfl, ?_⟩; intro w0 hSw; (try dsimp only at hSw); go_simp; try with_reducible rfl)
          try simp only [Act.put, List.setIfInBounds_toArray, List.set_cons_zero, List.set_cons_succ]
          refine wpAnyH_take (i := 4) (oi := ?or4) (v := ?vr4) ?hor4 (by kernel_rfl) (by kernel_rfl) (by kernel_rfl) ?hqr4 ?hyr4 (by assumption) ?restr4
          case hor4 => (simp only [List.getElem?_toArray, List.getElem?_cons_succ, List.getElem?_cons_zero]; rfl)
          case hqr4 => exact fun _ _ _ h => h
          case hyr4 => (refine Or.inl ⟨by rfl, ?_⟩; intro w0 hSw; (try dsimp only at hSw); go_simp; try with_reducible rfl)
          try simp only [Act.put, List.setIfInBounds_toArray, List.set_cons_zero, List.set_cons_succ]
          refine wpAnyH_take (i := 5) (oi := ?or5) (v := ?vr5) ?hor5 (by kernel_rfl) (by kernel_rfl) (by kernel_rfl) ?hqr5 ?hyr5 (by assumption) ?restr5
          case hor5 => (simp only [List.getElem?_toArray, List.getElem?_cons_succ, List.getElem?_cons_zero]; rfl)
          case hqr5 => exact fun _ _ _ h => h
          case hyr5 => (refine Or.inl ⟨by rfl, ?_⟩; intro w0 hSw; (try dsimp only at hSw); go_simp; try with_reducible rfl)
          try simp only [Act.put, List.setIfInBounds_toArray, List.set_cons_zero, List.set_cons_succ]
          refine wpAnyH_ready (rs := [2]) (by kernel_rfl) (by simp) ?_
          refine AllReadyH.cons (o := ?or2) ?hor2 ?hsr2 AllReadyH.nil
          case hor2 => (simp only [List.getElem?_toArray, List.getElem?_cons_succ, List.getElem?_cons_zero]; rfl)
          intro K hK
          go_simp
          refine (all_calls _ w.heap.size g s l HN.out.two.x (by omega)).mono ?_
          rintro e W12 ⟨va, rfl, hva, hd⟩
          obtain ⟨VA, da, rfl⟩ := Kd.R_slice hva
          have HVA := Aside0.mk (R_C hva)
          clear hva
          have HN12 := Aside0.mk (HN.out.fr hd)
          have HF12 := Aside0.mk (HF.out.trans hd (fun _ _ hf => hf.elim))
          clear HN HF hd
          have HN := HN12
          have HF := HF12
          clear HN12 HF12
          dsimp only
          refine hK.out _ _ HN.out.cells (fun hHeld => ?_)
          clear hK K
          try simp only [Act.put, List.setIfInBounds_toArray, List.set_cons_zero, List.set_cons_succ]
          refine wpAnyH_ready (rs := [6]) (by kernel_rfl) (by simp) ?_
          refine AllReadyH.cons (o := ?or6) ?hor6 ?hsr6 AllReadyH.nil
          case hor6 => (simp only [List.getElem?_toArray, List.getElem?_cons_succ, List.getElem?_cons_zero]; rfl)
          intro K hK
          go_simp
          refine (same_calls _ l l VA V0 da d0 HVA.out (R_C HN.out.two.rx)).mono ?_
          rintro e W13 ⟨rfl, hd⟩
          rw [show decide (l = l) = true from decide_eq_true rfl]
          replace hd := Fr.drawn (S := fun _ => False) hd
          clear HVA
          have HN13 := Aside0.mk (HN.out.fr hd)
          have HF13 := Aside0.mk (HF.out.trans hd (fun _ _ hf => hf.elim))
          clear HN HF hd
          have HN := HN13
          have HF := HF13
          clear HN13 HF13
          dsimp only
          refine hK.out _ _ HN.out.cells (fun hHeld => ?_)
          clear hK K
          try simp only [Act.put, List.setIfInBounds_toArray, List.set_cons_zero, List.set_cons_succ]
          refine wpAnyH_take (i := 7) (oi := ?or7) (v := ?vr7) ?hor7 (by kernel_rfl) (by kernel_rfl) (by kernel_rfl) ?hqr7 ?hyr7 (by assumption) ?restr7
          case hor7 => (simp only [List.getElem?_toArray, List.getElem?_cons_succ, List.getElem?_cons_zero]; rfl)
          case hqr7 => exact fun _ _ _ h => h
          case hyr7 => (refine Or.inl ⟨by rfl, ?_⟩; intro w0 hSw; (try dsimp only at hSw); go_simp; try with_reducible rfl)
          try simp only [Act.put, List.setIfInBounds_toArray, List.set_cons_zero, List.set_cons_succ]
          refine wpAnyH_take (i := 8) (oi := ?or8) (v := ?vr8) ?hor8 (by kernel_rfl) (by kernel_rfl) (by kernel_rfl) ?hqr8 ?hyr8 (by assumption) ?restr8
          case hor8 => (simp only [List.getElem?_toArray, List.getElem?_cons_succ, List.getElem?_cons_zero]; rfl)
          case hqr8 => exact fun _ _ _ h => h
          case hyr8 => (refine Or.inl ⟨by rfl, ?_⟩; intro w0 hSw; (try dsimp only at hSw); go_simp; try with_reducible rfl)
          try simp only [Act.put, List.setIfInBounds_toArray, List.set_cons_zero, List.set_cons_succ]
          refine wpAnyH_take (i := 9) (oi := ?or9) (v := ?vr9) ?hor9 (by kernel_rfl) (by kernel_rfl) (by kernel_rfl) ?hqr9 ?hyr9 (by assumption) ?restr9
          case hor9 => (simp only [List.getElem?_toArray, List.getElem?_cons_succ, List.getElem?_cons_zero]; rfl)
          case hqr9 => exact fun _ _ _ h => h
          case hyr9 => (refine Or.inl ⟨by rfl, ?_⟩; intro w0 hSw; (try dsimp only at hSw); go_simp; try with_reducible rfl)
          try simp only [Act.put, List.setIfInBounds_toArray, List.set_cons_zero, List.set_cons_succ]
          refine wpAnyH_take (i := 11) (oi := ?or11) (v := ?vr11) ?hor11 (by kernel_rfl) (by kernel_rfl) (by kernel_rfl) ?hqr11 ?hyr11 (by assumption) ?restr11
          case hor11 => (simp only [List.getElem?_toArray, List.getElem?_cons_succ, List.getElem?_cons_zero]; rfl)
          case hqr11 => exact fun _ _ _ h => h
          case hyr11 => (refine Or.inl ⟨by rfl, ?_⟩; intro w0 hSw; (try dsimp only at hSw); go_simp; try with_reducible rfl)
          try simp only [Act.put, List.setIfInBounds_toArray, List.set_cons_zero, List.set_cons_succ]
          refine wpAnyH_take (i := 12) (oi := ?or12) (v := ?vr12) ?hor12 (by kernel_rfl) (by kernel_rfl) (by kernel_rfl) ?hqr12 ?hyr12 (by assumption) ?restr12
          case hor12 => (simp only [List.getElem?_toArray, List.getElem?_cons_succ, List.getElem?_cons_zero]; rfl)
          case hqr12 => exact fun _ _ _ h => h
          case hyr12 => (refine Or.inl ⟨by rfl, ?_⟩; intro w0 hSw; (try dsimp only at hSw); go_simp; try with_reducible rfl)
          try simp only [Act.put, List.setIfInBounds_toArray, List.set_cons_zero, List.set_cons_succ]
          refine wpAnyH_take (i := 13) (oi := ?or13) (v := ?vr13) ?hor13 (by kernel_rfl) (by kernel_rfl) (by kernel_rfl) ?hqr13 ?hyr13 (by assumption) ?restr13
          case hor13 => (simp only [List.getElem?_toArray, List.getElem?_cons_succ, List.getElem?_cons_zero]; rfl)
          case hqr13 => exact fun _ _ _ h => h
          case hyr13 => (refine Or.inl ⟨by rfl, ?_⟩; intro w0 hSw; (try dsimp only at hSw); go_simp; try with_reducible rfl)
          try simp only [Act.put, List.setIfInBounds_toArray, List.set_cons_zero, List.set_cons_succ]
          refine wpAnyH_ready (rs := [10]) (by kernel_rfl) (by simp) ?_
          refine AllReadyH.cons (o := ?or10) ?hor10 ?hsr10 AllReadyH.nil
          case hor10 => (simp only [List.getElem?_toArray, List.getElem?_cons_succ, List.getElem?_cons_zero]; rfl)
          intro K hK
          go_simp
          refine (all_calls _ w.heap.size h t m HN.out.two.y (by omega)).mono ?_
          rintro e W14 ⟨va, rfl, hva, hd⟩
          obtain ⟨VA, da, rfl⟩ := Kd.R_slice hva
          have HVA := Aside0.mk (R_C hva)
          clear hva
          have HN14 := Aside0.mk (HN.out.fr hd)
          have HF14 := Aside0.mk (HF.out.trans hd (fun _ _ hf => hf.elim))
          clear HN HF hd
          have HN := HN14
          have HF := HF14
          clear HN14 HF14
          dsimp only
          refine hK.out _ _ HN.out.cells (fun hHeld => ?_)
          clear hK K
          try simp only [Act.put, List.setIfInBounds_toArray, List.set_cons_zero, List.set_cons_succ]
          refine wpAnyH_ready (rs := [14]) (by kernel_rfl) (by simp) ?_
          refine AllReadyH.cons (o := ?or14) ?hor14 ?hsr14 AllReadyH.nil
          case hor14 => (simp only [List.getElem?_toArray, List.getElem?_cons_succ, List.getElem?_cons_zero]; rfl)
          intro K hK
          go_simp
          refine (same_calls _ m m VA V1 da d1 HVA.out (R_C HN.out.two.ry)).mono ?_
          rintro e W15 ⟨rfl, hd⟩
          rw [show decide (m = m) = true from decide_eq_true rfl]
          replace hd := Fr.drawn (S := fun _ => False) hd
          clear HVA
          have HN15 := Aside0.mk (HN.out.fr hd)
          have HF15 := Aside0.mk (HF.out.trans hd (fun _ _ hf => hf.elim))
          clear HN HF hd
          have HN := HN15
          have HF := HF15
          clear HN15 HF15
          dsimp only
          refine hK.out _ _ HN.out.cells (fun hHeld => ?_)
          clear hK K
          try simp only [Act.put, List.setIfInBounds_toArray, List.set_cons_zero, List.set_cons_succ]
          refine wpAnyH_take (i := 15) (oi := ?or15) (v := ?vr15) ?hor15 (by kernel_rfl) (by kernel_rfl) (by kernel_rfl) ?hqr15 ?hyr15 (by assumption) ?restr15
          case hor15 => (simp only [List.getElem?_toArray, List.getElem?_cons_succ, List.getElem?_cons_zero]; rfl)
          case hqr15 => exact fun _ _ _ h => h
          case hyr15 => (refine Or.inl ⟨by rfl, ?_⟩; intro w0 hSw; (try dsimp only at hSw); go_simp; try with_reducible rfl)
          try simp only [Act.put, List.setIfInBounds_toArray, List.set_cons_zero, List.set_cons_succ]
          refine wpAnyH_take (i := 16) (oi := ?or16) (v := ?vr16) ?hor16 (by kernel_rfl) (by kernel_rfl) (by kernel_rfl) ?hqr16 ?hyr16 (by assumption) ?restr16
          case hor16 => (simp only [List.getElem?_toArray, List.getElem?_cons_succ, List.getElem?_cons_zero]; rfl)
          case hqr16 => exact fun _ _ _ h => h
          case hyr16 => (refine Or.inl ⟨by rfl, ?_⟩; intro w0 hSw; (try dsimp only at hSw); go_simp; try with_reducible rfl)
          try simp only [Act.put, List.setIfInBounds_toArray, List.set_cons_zero, List.set_cons_succ]
          refine wpAnyH_done (by kernel_rfl) ?_ _
          -- behind the return's region (dl.py)
          go_wp2_with (fail)
          go_ret
          exact ⟨rfl, HF.out.below (Nat.le_refl _) (fun i hi hk => by omega)⟩
    · have HB := Aside0.mk hno
      have HF2 := Aside0.mk (HF1.out.trans hF2 (fun _ _ hf => hf))
      clear hF2 hno
      go_wp2_with (fail)
      refine (numbers_calls _ xs A c (HF2.out.C (S := fun _ => False) 0 HR.out (fun _ _ _ => id))).mono ?_
      rintro e _ ⟨⟨b, rfl, hb⟩, rfl⟩
      obtain rfl : b = true := hb.2 HA.out
      clear hb
      go_wp2_with (fail)
      refine (numbers_calls _ ys A' c' (HF2.out.C (S := fun _ => False) 0 HR'.out (fun _ _ _ => id))).mono ?_
      rintro e _ ⟨⟨b, rfl, hb⟩, rfl⟩
      obtain rfl : b = false := none_good HB.out hb
      clear hb
      go_wp2_with (fail)
      refine (numbers_calls _ xs A c (HF2.out.C (S := fun _ => False) 0 HR.out (fun _ _ _ => id))).mono ?_
      rintro e _ ⟨⟨b, rfl, hb⟩, rfl⟩
      obtain rfl : b = true := hb.2 HA.out
      clear hb
      go_wp2_with (fail)
      refine (alive_calls _).mono ?_
      rintro e W3 ⟨rfl, hd⟩
      have HF3 := Aside0.mk (HF2.out.trans hd (fun _ _ hf => hf))
      clear hd
      go_wp2_with (fail)
      refine (numbers_calls _ ys A' c' (HF3.out.C (S := fun _ => False) 0 HR'.out (fun _ _ _ => id))).mono ?_
      rintro e _ ⟨⟨b, rfl, hb⟩, rfl⟩
      obtain rfl : b = false := none_good HB.out hb
      clear hb
      go_wp2_with (fail)
      go_ret
      exact ⟨rfl, HF3.out.to_below⟩
  · have HA := Aside0.mk hno
    have HF1 := Aside0.mk hF1
    clear hF1 hno
    go_wp2_with (fail)
    refine (newSet_calls W1 W1.heap.size ys A' c' (Nat.le_refl _) (HF1.out.C (S := fun _ => False) 0 HR'.out (fun _ _ _ => id)) (fun ad e hp => Nat.lt_of_lt_of_le (HLT'.out ad e hp) HF1.out.size)).mono ?_
    rintro e W2 hP2
    rcases hP2 with ⟨hall, ly, svy, hA2, rfl, hN2, hoy, hF2⟩ | ⟨hno, rfl, hF2⟩
    · have HB := Aside0.mk hall
      have HF2 := Aside0.mk (HF1.out.trans hF2 (fun _ _ hf => hf))
      clear hF2 hall hN2 hA2 hoy
      go_wp2_with (fail)
      refine (numbers_calls _ xs A c (HF2.out.C (S := fun _ => False) 0 HR.out (fun _ _ _ => id))).mono ?_
      rintro e _ ⟨⟨b, rfl, hb⟩, rfl⟩
      obtain rfl : b = false := none_good HA.out hb
      clear hb
      go_wp2_with (fail)
      refine (numbers_calls _ ys A' c' (HF2.out.C (S := fun _ => False) 0 HR'.out (fun _ _ _ => id))).mono ?_
      rintro e _ ⟨⟨b, rfl, hb⟩, rfl⟩
      obtain rfl : b = true := hb.2 HB.out
      clear hb
      go_wp2_with (fail)
      refine (numbers_calls _ xs A c (HF2.out.C (S := fun _ => False) 0 HR.out (fun _ _ _ => id))).mono ?_
      rintro e _ ⟨⟨b, rfl, hb⟩, rfl⟩
      obtain rfl : b = false := none_good HA.out hb
      clear hb
      go_wp2_with (fail)
      refine (alive_calls _).mono ?_
      rintro e W3 ⟨rfl, hd⟩
      have HF3 := Aside0.mk (HF2.out.trans hd (fun _ _ hf => hf))
      clear hd
      go_wp2_with (fail)
      refine (numbers_calls _ ys A' c' (HF3.out.C (S := fun _ => False) 0 HR'.out (fun _ _ _ => id))).mono ?_
      rintro e _ ⟨⟨b, rfl, hb⟩, rfl⟩
      obtain rfl : b = true := hb.2 HB.out
      clear hb
      go_wp2_with (fail)
      go_ret
      exact ⟨rfl, HF3.out.to_below⟩
    · have HB := Aside0.mk hno
      have HF2 := Aside0.mk (HF1.out.trans hF2 (fun _ _ hf => hf))
      clear hF2 hno
      go_wp2_with (fail)
      refine (numbers_calls _ xs A c (HF2.out.C (S := fun _ => False) 0 HR.out (fun _ _ _ => id))).mono ?_
      rintro e _ ⟨⟨b, rfl, hb⟩, rfl⟩
      obtain rfl : b = false := none_good HA.out hb
      clear hb
      go_wp2_with (fail)
      refine (numbers_calls _ ys A' c' (HF2.out.C (S := fun _ => False) 0 HR'.out (fun _ _ _ => id))).mono ?_
      rintro e _ ⟨⟨b, rfl, hb⟩, rfl⟩
      obtain rfl : b = false := none_good HB.out hb
      clear hb
      go_wp2_with (fail)
      refine (numbers_calls _ xs A c (HF2.out.C (S := fun _ => False) 0 HR.out (fun _ _ _ => id))).mono ?_
      rintro e _ ⟨⟨b, rfl, hb⟩, rfl⟩
      obtain rfl : b = false := none_good HA.out hb
      clear hb
      go_wp2_with (fail)
      refine (alive_calls _).mono ?_
      rintro e W3 ⟨rfl, hd⟩
      have HF3 := Aside0.mk (HF2.out.trans hd (fun _ _ hf => hf))
      clear hd
      go_wp2_with (fail)
      refine (numbers_calls _ ys A' c' (HF3.out.C (S := fun _ => False) 0 HR'.out (fun _ _ _ => id))).mono ?_
      rintro e _ ⟨⟨b, rfl, hb⟩, rfl⟩
      obtain rfl : b = false := none_good HB.out hb
      clear hb
      go_wp2_with (fail)
      go_ret
      exact ⟨rfl, HF3.out.to_below⟩
end Go.Proofs.YtpjhflimaiaokaaDoor.SetsLaw
