/-
Kinds laid into others: gram.join, walked.
-/
import Derived.Deep.RegionLaw
import Derived.Deep.RegionHeld3
import Derived.Test.YtdngobjcdajogaaT9QD
namespace Go.Proofs.Ytdngobjcdajogaa.Gram
open Go.RowKit Go.Proofs.YtdngobjcdajogaaW.PrintWords Go.Proofs.YtdngobjcdajogaaW.PrintLast Go.Proofs.YtdngobjcdajogaaW.PrintMore Go.Proofs.Ytdngobjcdajogaa.Fr Go.Proofs.Ytdngobjcdajogaa.PGramFirsts Go.Proofs.Ytdngobjcdajogaa.TextSet
/-- The marks l with the first k marks of f. -/
def joinL (l f : List Bool) : Nat → List Bool
  | 0 => l
  | k + 1 => if rdOf false f (k : Int) = true then (joinL l f k).set k true else joinL l f k
/-- Whether some of the first k marks of f were not there. -/
def someL (l f : List Bool) : Nat → Bool
  | 0 => false
  | k + 1 => someL l f k || (rdOf false f (k : Int) && !rdOf false l (k : Int))
theorem joinL_length (l f : List Bool) : ∀ k, (joinL l f k).length = l.length
  | 0 => rfl
  | k + 1 => by
    simp only [joinL]
    split
    · rw [List.length_set]; exact joinL_length l f k
    · exact joinL_length l f k
theorem joinL_at (l f : List Bool) (hl : f.length ≤ l.length) : ∀ k, k ≤ f.length → ∀ i : Nat, rdOf false (joinL l f k) (i : Int) = (rdOf false l (i : Int) || (decide (i < k) && rdOf false f (i : Int)))
  | 0, _, i => by simp [joinL]
  | k + 1, hk, i => by
    have ih := joinL_at l f hl k (by omega) i
    simp only [joinL]
    by_cases hf : rdOf false f (k : Int) = true
    · rw [if_pos hf, rdOf_set (by rw [joinL_length]; omega)]
      by_cases e : i = k
      · subst e; simp [hf]
      · rw [if_neg e, ih]
        have : (decide (i < k + 1)) = decide (i < k) := decide_eq_decide.2 (by omega)
        rw [this]
    · rw [if_neg hf, ih]
      by_cases e : i = k
      · subst e; simp [hf]
      · have : (decide (i < k + 1)) = decide (i < k) := decide_eq_decide.2 (by omega)
        rw [this]
theorem joinL_same {l f : List Bool} {k : Nat} (hk : k < l.length) (h : rdOf false (joinL l f k) (k : Int) = true) : (joinL l f k).set k true = joinL l f k := by
  have hk2 : k < (joinL l f k).length := by rw [joinL_length]; exact hk
  apply List.ext_getElem?
  intro i
  rw [List.getElem?_set]
  by_cases e : k = i
  · subst e
    simp only [rdOf, Int.toNat_natCast, List.getD_eq_getElem?_getD, List.getElem?_eq_getElem hk2, Option.getD_some] at h
    simp [hk2, h]
  · rw [if_neg e]
set_option maxHeartbeats 2000000 in
set_option maxRecDepth 100000 in
theorem join_calls (w : World) (B gb cap : Nat) (ok : Nat → Prop) (l f : List Bool) (A : Option Addr) (c : Nat) (hr : kB.R 4 w B ok (.slice (some ⟨gb, 0, none⟩) l.length cap) l) (hf : kB.C w A f.length f) (hne : ∀ ad, A = some ad → 0 < f.length → ad.block ≠ gb) (hl : f.length ≤ l.length) :
    Calls Try.prog 67 #[.slice (some ⟨gb, 0, none⟩) l.length cap, .slice A f.length c] w fun e w' => e = .returned (.bool (someL l f f.length)) ∧ kB.R 4 w' B ok (.slice (some ⟨gb, 0, none⟩) l.length cap) (joinL l f f.length) ∧ Fr (fun k => k = gb) w w' := by
  have hm := Kd.C_max hf
  have HR := Aside0.mk hr
  have HF := Aside0.mk hf
  have HNE := Aside0.mk hne
  clear hr hf hne
  go_enter Try.func67, Try.ntmps67
  go_wp2_with (fail)
  go_loopw [10, 5] (fun a b W => ∃ (i : Nat) (sm : Bool), a = .int .i64 i ∧ b = .bool sm ∧ i ≤ f.length ∧ Aside0 (sm = someL l f i) ∧ Aside0 (kB.R 4 W B ok (.slice (some ⟨gb, 0, none⟩) l.length cap) (joinL l f i)) ∧ Aside0 (Fr (fun k => k = gb) w W)) (fun a _ _ => f.length - (intOf a).toNat)
  case atStart => exact ⟨0, false, rfl, rfl, Nat.zero_le _, ⟨rfl⟩, HR, ⟨Fr.refl _ _⟩⟩
  case round =>
    clear HR
    obtain ⟨i, sm, rfl, rfl, hi, HS, HR, HFR⟩ := hrel
    by_cases hlt : i < f.length
    · obtain ⟨ad, rfl, hx⟩ := Kd.at_bool HF.out (i : Int) (by omega) (by omega)
      simp only [Int.toNat_natCast] at hx
      have y := HFR.out.cell hx (by rw [Fr.add_block]; exact HNE.out ad rfl (by omega))
      have hle := joinL_length l f i
      obtain ⟨Am, cm, em, hcm, hCm⟩ := Kd.R_reads HR.out
      injection em with em1 em2 em3
      subst em1
      obtain ⟨adm, ea, hxm⟩ := Kd.at_bool hCm (i : Int) (by omega) (by rw [hle]; omega)
      injection ea with ea
      subst ea
      rw [add_plain] at hxm
      simp only [Int.toNat_natCast] at hxm
      obtain ⟨_, _, _, q, _, cells, hcells⟩ := (Kd.R_bound HR.out).1 gb rfl
      have hfz := blk_frozen hcells i
      have hlen : i < l.length := by omega
      have HAT := Aside0.mk (joinL_at l f hl i (by omega) i)
      have hput := HR.out
      rw [← hle] at hput
      obtain ⟨hp1, hp2⟩ := Kd.R_put hput (i : Int) true
      rw [hle] at hp1
      simp only [Int.toNat_natCast] at hp1 hp2
      have HP := Aside0.mk hp1
      have HF2 := Aside0.mk (HFR.out.grown hp2 (fun k hk _ => by injection hk with hk; exact hk.symm))
      have HLT := Aside0.mk hlt
      have HLE := Aside0.mk hlen
      clear em2 em3 hput hp1 hp2 hcells hCm hcm hx
      cases hfi : rdOf false f (i : Int) with
      | false =>
        rw [hfi] at y
        have HJ := Aside0.mk (show joinL l f (i + 1) = joinL l f i by simp [joinL, hfi])
        have HR2 := Aside0.mk (show kB.R 4 wr B ok (.slice (some ⟨gb, 0, none⟩) l.length cap) (joinL l f (i + 1)) by rw [HJ.out]; exact HR.out)
        have HS2 := Aside0.mk (show sm = someL l f (i + 1) by rw [HS.out]; simp [someL, hfi])
        go_wp2_with (fail)
        exact ⟨⟨i + 1, sm, by go_num, rfl, HLT.out, HS2, HR2, HFR⟩, by have := HLT.out; simp [intOf]; omega⟩
      | true =>
        rw [hfi] at y
        have HJ := Aside0.mk (show joinL l f (i + 1) = (joinL l f i).set i true by simp [joinL, hfi])
        have hat : rdOf false (joinL l f i) (i : Int) = rdOf false l (i : Int) := by rw [HAT.out]; simp
        rw [hat] at hxm
        cases hli : rdOf false l (i : Int) with
        | true =>
          rw [hli] at hxm
          have HR2 := Aside0.mk (show kB.R 4 wr B ok (.slice (some ⟨gb, 0, none⟩) l.length cap) (joinL l f (i + 1)) by rw [HJ.out, joinL_same HLE.out (by rw [hat, hli])]; exact HR.out)
          have HS2 := Aside0.mk (show sm = someL l f (i + 1) by rw [HS.out]; simp [someL, hli])
          go_wp2_with (fail)
          exact ⟨⟨i + 1, sm, by go_num, rfl, HLT.out, HS2, HR2, HFR⟩, by have := HLT.out; simp [intOf]; omega⟩
        | false =>
          rw [hli] at hxm
          have HR2 := Aside0.mk (show kB.R 4 (wr.setCell ⟨gb, i, none⟩ (.bool true)) B ok (.slice (some ⟨gb, 0, none⟩) l.length cap) (joinL l f (i + 1)) by rw [HJ.out]; exact HP.out)
          have HS2 := Aside0.mk (show true = someL l f (i + 1) by simp [someL, hfi, hli])
          go_wp2_with (fail)
          exact ⟨⟨i + 1, true, by go_num, rfl, HLT.out, HS2, HR2, HF2⟩, by have := HLT.out; simp [intOf]; omega⟩
    · obtain rfl : i = f.length := by omega
      have HS2 := Aside0.mk HS.out
      go_wp2_with (fail)
      go_ret
      exact ⟨congrArg (fun b => Ending.returned (Value.bool b)) HS2.out, HR.out, HFR.out⟩
end Go.Proofs.Ytdngobjcdajogaa.Gram
namespace Go.Proofs.Ytdngobjcdajogaa.Gram
open Go.RowKit Go.Proofs.YtdngobjcdajogaaW.PrintWords Go.Proofs.YtdngobjcdajogaaW.PrintLast Go.Proofs.YtdngobjcdajogaaW.PrintMore Go.Proofs.Ytdngobjcdajogaa.Fr Go.Proofs.Ytdngobjcdajogaa.PGramFirsts Go.Proofs.Ytdngobjcdajogaa.TextSet
abbrev kR : Kd (List Bool) := Kd.slice 4 kB
/-- Rows of one's own, stored one by one. -/
theorem rows_put {W W1 : World} {base n gb cap i : Nat} {v : Value} {xs : List (List Bool)} {row : List Bool} (h : Kd.S kR 36 W base (fun _ => True) (.slice (some ⟨gb, 0, none⟩) n cap) xs) (hb : Below W.heap.size W W1) (hv : kB.R 4 W1 W.heap.size (fun _ => True) v row) (hbase : base ≤ W.heap.size) (hi : i < n) :
    Kd.S kR 36 (W1.setCell ⟨gb, i, none⟩ v) base (fun _ => True) (.slice (some ⟨gb, 0, none⟩) n cap) (xs.set i row) ∧ base ≤ gb := by
  have hgb : base ≤ gb := Kd.S_base h gb rfl
  have hlt : gb < W.heap.size := Kd.S_lt h gb rfl
  have hvb := Kd.R_base hv
  have h1 := Kd.S_mono (Kd.S_elder' h hvb hb) (fun k hk => (⟨trivial, fun e => hk.2 e⟩ : True ∧ ¬ some k = v.ownBlock))
  obtain ⟨oki, c, _, hM, _, _, _, hH⟩ := Kd.S_elem h1 [] (i : Int) (by omega) (by omega)
  obtain ⟨ve, rfl, _⟩ := hM
  have hp := Kd.S_seg (okg := fun k => some k = v.ownBlock) (okp := fun k => some k = v.ownBlock) hH (by omega) (by omega) (seg := [v]) (j := 0) (show 1 ≤ 1 from Nat.le_refl 1) (x' := row) (Kd.M_row (Kd.R_tight rfl (Kd.R_lower hv hbase))) (fun k hk => .inr hk) (fun k hk => ⟨trivial, by have := hvb k hk.symm; omega⟩)
  simp only [show kR.sz = 1 from rfl, Nat.mul_one, Nat.add_zero, Int.toNat_natCast] at hp
  exact ⟨hp.1, hgb⟩
/-- Element i of rows of one's own. -/
theorem rows_at {W : World} {base n gb cap i : Nat} {ok : Nat → Prop} {xs : List (List Bool)} (h : Kd.S kR 36 W base ok (.slice (some ⟨gb, 0, none⟩) n cap) xs) (hi : i < n) :
    ∃ A c oki, W.cell? ⟨gb, i, none⟩ = some (.slice A (xs.getD i []).length c) ∧ W.frozen? ⟨gb, i, none⟩ = false ∧ kB.R 4 W base oki (.slice A (xs.getD i []).length c) (xs.getD i []) ∧ (∀ k, oki k → ok k ∧ k ≠ gb) := by
  obtain ⟨oki, c, _, hM, hcc, hfr, hok, _⟩ := Kd.S_elem h [] (i : Int) (by omega) (by omega)
  obtain ⟨ve, rfl, hR⟩ := hM
  obtain ⟨A, k, rfl⟩ := Kd.R_slice hR
  have h1 := hcc 0 _ rfl
  have h2 := hfr 0
  simp only [show kR.sz = 1 from rfl, Nat.mul_one, Nat.add_zero, Int.toNat_natCast] at h1 h2 hR
  exact ⟨A, k, oki, h1, h2, hR, hok⟩
structure FW (w W : World) (G : Gr) (A0 A1 A2 A3 : Option Addr) (c0 c1 c2 c3 : Nat) (v : Value) (xs : List (List Bool)) : Prop where
  chk : ChkW w W G A0 A1 A2 A3 c0 c1 c2 c3
  rows : Kd.S kR 36 W (w.heap.size + 1) (fun _ => True) v xs
theorem FW.put {w W W1 : World} {G : Gr} {A0 A1 A2 A3 : Option Addr} {c0 c1 c2 c3 n gb cap i : Nat} {v : Value} {xs : List (List Bool)} {row : List Bool} (h : FW w W G A0 A1 A2 A3 c0 c1 c2 c3 (.slice (some ⟨gb, 0, none⟩) n cap) xs) (hb : Below W.heap.size W W1) (hv : kB.R 4 W1 W.heap.size (fun _ => True) v row) (hi : i < n) :
    FW w (W1.setCell ⟨gb, i, none⟩ v) G A0 A1 A2 A3 c0 c1 c2 c3 (.slice (some ⟨gb, 0, none⟩) n cap) (xs.set i row) := by
  have h1 := blk_lt h.chk.box
  obtain ⟨h2, h3⟩ := rows_put h.rows hb hv (by omega) hi
  have h4 := h.chk.go (Fr.of_below hb)
  have hF : Fr (fun k => k = gb) W1 (W1.setCell ⟨gb, i, none⟩ v) := (Fr.refl (fun k => k = gb) W1).set (g := gb) (o := i) _ (fun _ => rfl)
  exact ⟨⟨hF.blk h4.box (by omega), h4.fr.trans hF (fun k hk e => by omega)⟩, h2⟩
theorem sets_form {W : World} {B : Nat} {ok : Nat → Prop} {v : Value} {l : List (List Bool)} (h : Kd.S kR 36 W B ok v l) (hl : 1 ≤ l.length) : ∃ g cap, v = .slice (some ⟨g, 0, none⟩) l.length cap := by
  obtain ⟨g, cap, e, _⟩ := Kd.S_form h hl
  exact ⟨g, cap, e⟩
def freshL (R K : Nat) : List (List Bool) := List.replicate R (List.replicate K false)
theorem freshL_end {R K : Nat} {xs : List (List Bool)} (hl : xs.length = R) (h : ∀ j, j < R → xs[j]? = some (List.replicate K false)) : xs = freshL R K := by
  apply List.ext_getElem?
  intro j
  by_cases hj : j < R
  · rw [h j hj, freshL, List.getElem?_replicate, if_pos hj]
  · rw [List.getElem?_eq_none (by omega), freshL, List.getElem?_replicate, if_neg hj]
set_option maxHeartbeats 4000000 in
set_option maxRecDepth 100000 in
theorem fresh_calls (w : World) (G : Gr) (A0 A1 A2 A3 : Option Addr) (c0 c1 c2 c3 : Nat) (hR1 : 1 ≤ G.rules.length) (hR : G.rules.length ≤ 2048) (hK : G.kinds.length ≤ 1000000) :
    Calls Try.prog 66 #[.agg #[.slice A0 G.kinds.length c0, .slice A1 G.precs.length c1, .slice A2 G.rules.length c2, .slice A3 G.prods.length c3, .int .i64 G.start]] w fun e w' =>
      ∃ v, e = .returned v ∧ Kd.S kR 36 w' (w.heap.size + 1) (fun _ => True) v (freshL G.rules.length G.kinds.length) ∧ Fr (fun _ => False) w w' := by
  have hu := Try.underlying26
  have HW := Aside0.mk (show ChkW w (w.alloc (.cells #[.slice A0 G.kinds.length c0, .slice A1 G.precs.length c1, .slice A2 G.rules.length c2, .slice A3 G.prods.length c3, .int .i64 G.start] 26)) G A0 A1 A2 A3 c0 c1 c2 c3 from ⟨blk_new w _, (Fr.refl _ w).alloc _⟩)
  have hws : (w.alloc (.cells #[.slice A0 G.kinds.length c0, .slice A1 G.precs.length c1, .slice A2 G.rules.length c2, .slice A3 G.prods.length c3, .int .i64 G.start] 26)).heap.size = w.heap.size + 1 := by simp only [World.size_alloc]
  go_enter Try.func66, Try.ntmps66
  go_upto_region 1 with fail
  generalize w.alloc (.cells #[.slice A0 G.kinds.length c0, .slice A1 G.precs.length c1, .slice A2 G.rules.length c2, .slice A3 G.prods.length c3, .int .i64 G.start] 26) = W0 at HW hws ⊢
  obtain ⟨e0, e1, e2, e3, e4⟩ := HW.out.cells
  go_upto_region 2 with (at_make; refine Kd.S_make kR (w0 := W0) W0.heap.size 36 rfl (N := 8) rfl 77 _ _ rfl (G.rules.length : Int) rfl rfl Try.underlying77 (.slice none 0 0) 24 info36 rfl (by decide) (by omega) [] (ok := fun _ => True) (okp := fun _ => True) ⟨_, rfl, Kd.R_nil _ _ _ _ _⟩ (fun _ hk => hk) trivial (by omega) (by omega) (Below.refl _ _) (Nat.le_refl _) ?_; intro v1 W1 h1 hB1 hg1 hb1; have HX := Aside0.mk (show FW w W1 G A0 A1 A2 A3 c0 c1 c2 c3 v1 (List.replicate G.rules.length []) from ⟨HW.out.go (Fr.of_below hB1), by simpa [hws] using h1⟩); clear h1 hB1 hg1)
  obtain ⟨gb, cap, rfl⟩ := sets_form HX.out.rows (by simp; exact hR1)
  simp only [List.length_replicate] at HX hb1 ⊢
  clear e0 e1 e2 e3 e4
  go_wp2_with (fail)
  go_loopw [11] (fun a W => ∃ (i : Nat) (xs : List (List Bool)), a = .int .i64 i ∧ i ≤ G.rules.length ∧ Aside0 (FW w W G A0 A1 A2 A3 c0 c1 c2 c3 (.slice (some ⟨gb, 0, none⟩) G.rules.length cap) xs) ∧ Aside0 (xs.length = G.rules.length ∧ ∀ j, j < i → xs[j]? = some (List.replicate G.kinds.length false))) (fun a _ => G.rules.length - (intOf a).toNat)
  case atStart => exact ⟨0, _, rfl, Nat.zero_le _, HX, ⟨by simp, fun j hj => absurd hj (by omega)⟩⟩
  case round =>
    clear HX
    obtain ⟨i, xs, rfl, hi, HX, HL⟩ := hrel
    by_cases hlt : i < G.rules.length
    · have HLT := Aside0.mk hlt
      obtain ⟨e0, e1, e2, e3, e4⟩ := HX.out.chk.cells
      go_upto_region 5 with fail
      go_upto_region 6 with (at_make; refine Kd.R_make kB (w0 := wr) wr.heap.size 4 rfl (N := 19) rfl 36 _ _ rfl (G.kinds.length : Int) rfl rfl Try.underlying36 (.bool false) 1 info4 rfl (by decide) (by omega) false (ok := fun _ => True) (okp := fun _ => True) rfl (fun _ hk => hk) trivial (by omega) (by omega) (Below.refl _ _) (Nat.le_refl _) ?_; intro v2 W2 h2 hB2 hg2 hb2; have HX2 := Aside0.mk (HX.out.put hB2 (show kB.R 4 W2 wr.heap.size (fun _ => True) v2 (List.replicate G.kinds.length false) by simpa using h2) HLT.out); obtain ⟨A2, k2, rfl⟩ := Kd.R_slice h2; simp only [Int.toNat_natCast, List.length_replicate] at HX2; obtain ⟨A4, k4, _, hcl, hfz, _, _⟩ := rows_at (Kd.S_below HX.out.rows hB2) HLT.out; clear h2 hB2 hg2 hb2)
      go_wp2_with (fail)
      exact ⟨⟨i + 1, _, by go_num, HLT.out, HX2, ⟨by simp [HL.out.1], fun j hj => by
        have := HL.out.1
        have := HLT.out
        rw [List.getElem?_set]
        by_cases e : i = j
        · subst e; simp; omega
        · rw [if_neg e]; exact HL.out.2 j (by omega)⟩⟩, by have := HLT.out; simp [intOf]; omega⟩
    · obtain rfl : i = G.rules.length := by omega
      have HE := Aside0.mk (freshL_end HL.out.1 HL.out.2)
      have HXE := Aside0.mk (show FW w wr G A0 A1 A2 A3 c0 c1 c2 c3 (.slice (some ⟨gb, 0, none⟩) G.rules.length cap) (freshL G.rules.length G.kinds.length) by rw [← HE.out]; exact HX.out)
      clear HX HL HE
      go_wp2_with (fail)
      go_ret
      exact ⟨_, rfl, HXE.out.rows, HXE.out.chk.fr⟩
end Go.Proofs.Ytdngobjcdajogaa.Gram
namespace Go.Proofs.Ytdngobjcdajogaa.Gram
open Go.RowKit Go.Proofs.YtdngobjcdajogaaW.PrintWords Go.Proofs.YtdngobjcdajogaaW.PrintLast Go.Proofs.YtdngobjcdajogaaW.PrintMore Go.Proofs.Ytdngobjcdajogaa.Fr Go.Proofs.Ytdngobjcdajogaa.PGramFirsts Go.Proofs.Ytdngobjcdajogaa.TextSet
/-- With what a row begins, laid into what is there, and whether it can be nothing. -/
def rowF (K : Nat) (N : List Bool) (F : List (List Bool)) : List Bool → List Int → List Bool × Bool
  | out, [] => (out, true)
  | out, x :: l => if x < K then (out.set x.toNat true, false) else if rdOf false N (x - K) = true then rowF K N F (joinL out (rd_L7 F (x - K)) (rd_L7 F (x - K)).length) l else (joinL out (rd_L7 F (x - K)) (rd_L7 F (x - K)).length, false)
theorem isRule_calls (w : World) (G : Gr) (A0 A1 A2 A3 : Option Addr) (c0 c1 c2 c3 : Nat) (h : GAt w G A0 A1 A2 A3 c0 c1 c2 c3) (hK : G.kinds.length ≤ 1024) (x : Int) (h1 : 1 ≤ x) (h2 : x ≤ 1000000) :
    Calls Try.prog 38 #[.agg #[.slice A0 G.kinds.length c0, .slice A1 G.precs.length c1, .slice A2 G.rules.length c2, .slice A3 G.prods.length c3, .int .i64 G.start], .int .i64 x] w fun e w' =>
      e = .returned (.int .i64 (if x < G.kinds.length then -1 else x - G.kinds.length)) ∧ Fr (fun _ => False) w w' :=
  (gram_isRule.calls A0 c0 G.kinds A1 c1 G.precs A2 c2 G.rules A3 c3 G.prods G.start x _ w h.kinds h.l0 h.precs h.l1 h.rules h.l2 h.prods h.l3 (isRule_f _ _ _ _ _ x hK h1 h2)).mono fun _ _ h => ⟨h.1, Fr.of_below h.2⟩
/-- What is known of a grammar lies in block p. -/
structure KAt (w : World) (p : Nat) (G : Gr) (A0 A1 A2 A3 NA FA : Option Addr) (c0 c1 c2 c3 nc fc : Nat) (N : List Bool) (F : List (List Bool)) : Prop where
  box : w.heap[p]? = some (.cells #[.slice A0 G.kinds.length c0, .slice A1 G.precs.length c1, .slice A2 G.rules.length c2, .slice A3 G.prods.length c3, .int .i64 G.start, .slice NA N.length nc, .slice FA F.length fc] 79 (0, 0))
  g : GAt w G A0 A1 A2 A3 c0 c1 c2 c3
  null : kB.C w NA N.length N
  first : Kd.C kR w FA F.length F
  nl : N.length = G.rules.length
  fl : F.length = G.rules.length
  fk : ∀ i : Nat, i < G.rules.length → (rd_L7 F i).length = G.kinds.length
theorem KAt.go {w w1 : World} {p : Nat} {G : Gr} {A0 A1 A2 A3 NA FA : Option Addr} {c0 c1 c2 c3 nc fc : Nat} {N : List Bool} {F : List (List Bool)} (h : KAt w p G A0 A1 A2 A3 NA FA c0 c1 c2 c3 nc fc N F) (hF : Fr (fun _ => False) w w1) : KAt w1 p G A0 A1 A2 A3 NA FA c0 c1 c2 c3 nc fc N F :=
  ⟨hF.blk h.box id, h.g.go hF, Kd.C_below h.null hF.to_below, Kd.C_below h.first hF.to_below, h.nl, h.fl, h.fk⟩
theorem KAt.cells {w : World} {p : Nat} {G : Gr} {A0 A1 A2 A3 NA FA : Option Addr} {c0 c1 c2 c3 nc fc : Nat} {N : List Bool} {F : List (List Bool)} (h : KAt w p G A0 A1 A2 A3 NA FA c0 c1 c2 c3 nc fc N F) :
    w.cell? ⟨p, 0, none⟩ = some (.slice A0 G.kinds.length c0) ∧ w.cell? ⟨p, 1, none⟩ = some (.slice A1 G.precs.length c1) ∧ w.cell? ⟨p, 2, none⟩ = some (.slice A2 G.rules.length c2) ∧ w.cell? ⟨p, 3, none⟩ = some (.slice A3 G.prods.length c3) ∧ w.cell? ⟨p, 4, none⟩ = some (.int .i64 G.start) ∧
    w.cell? ⟨p, 5, none⟩ = some (.slice NA N.length nc) ∧ w.cell? ⟨p, 6, none⟩ = some (.slice FA F.length fc) :=
  ⟨(blk_cell h.box 0).trans rfl, (blk_cell h.box 1).trans rfl, (blk_cell h.box 2).trans rfl, (blk_cell h.box 3).trans rfl, (blk_cell h.box 4).trans rfl, (blk_cell h.box 5).trans rfl, (blk_cell h.box 6).trans rfl⟩
/-- The row that is made, in a call of row. -/
structure OW (w W : World) (v : Value) (out : List Bool) : Prop where
  fr : Fr (fun _ => False) w W
  row : kB.R 4 W w.heap.size (fun _ => True) v out
theorem OW.go {w W W1 : World} {v : Value} {out : List Bool} (h : OW w W v out) (hF : Fr (fun _ => False) W W1) : OW w W1 v out := ⟨h.fr.trans hF (fun _ _ => id), hF.R h.row (fun _ _ => id)⟩
set_option maxHeartbeats 4000000 in
set_option maxRecDepth 100000 in
theorem row_calls (w : World) (p : Nat) (G : Gr) (A0 A1 A2 A3 NA FA RA : Option Addr) (c0 c1 c2 c3 nc fc rc : Nat) (N : List Bool) (F : List (List Bool)) (row : List Int) (h : KAt w p G A0 A1 A2 A3 NA FA c0 c1 c2 c3 nc fc N F) (hK1 : 1 ≤ G.kinds.length) (hK : G.kinds.length ≤ 1024) (hR : G.rules.length ≤ 2048) (hr : kI.C w RA row.length row) (hrow : RowOk G.kinds.length G.rules.length row) :
    Calls Try.prog 28 #[.pointer (some ⟨p, 0, none⟩), .slice RA row.length rc] w fun e w' =>
      ∃ v, e = .returned (.tuple #[v, .bool (rowF G.kinds.length N F (List.replicate G.kinds.length false) row).2]) ∧ kB.R 4 w' w.heap.size (fun _ => True) v (rowF G.kinds.length N F (List.replicate G.kinds.length false) row).1 ∧ Fr (fun _ => False) w w' := by
  have hu := Try.underlying26
  have hu2 := Try.underlying79
  have hm := Kd.C_max hr
  have HA := Aside0.mk h
  have HR := Aside0.mk hr
  have HRO := Aside0.mk hrow
  obtain ⟨e0, e1, e2, e3, e4, e5, e6⟩ := h.cells
  clear h hr hrow
  go_enter Try.func28, Try.ntmps28
  go_upto_region 2 with (at_make; refine Kd.R_make kB (w0 := w) w.heap.size 4 rfl (N := 16) rfl 36 _ _ rfl (G.kinds.length : Int) rfl rfl Try.underlying36 (.bool false) 1 info4 rfl (by decide) (by omega) false (ok := fun _ => True) (okp := fun _ => True) rfl (fun _ hk => hk) trivial (by omega) (by omega) (Below.refl _ _) (Nat.le_refl _) ?_; intro v1 W1 h1 hB1 hg1 hb1; have HX := Aside0.mk (show OW w W1 v1 (List.replicate G.kinds.length false) from ⟨Fr.of_below hB1, by simpa using h1⟩); clear h1 hB1 hg1)
  obtain ⟨gb, cap, rfl⟩ := marks_form HX.out.row (by simp; exact hK1)
  simp only [List.length_replicate] at HX hb1 ⊢
  clear e0 e1 e2 e3 e4 e5 e6
  go_wp2_with (fail)
  go_loopw [19] (fun a W => ∃ (i : Nat) (out : List Bool), a = .int .i64 i ∧ i ≤ row.length ∧ out.length = G.kinds.length ∧ Aside0 (OW w W (.slice (some ⟨gb, 0, none⟩) G.kinds.length cap) out) ∧ Aside0 (rowF G.kinds.length N F (List.replicate G.kinds.length false) row = rowF G.kinds.length N F out (row.drop i))) (fun a _ => row.length - (intOf a).toNat)
  case atStart => exact ⟨0, _, rfl, Nat.zero_le _, by simp, HX, ⟨rfl⟩⟩
  case round =>
    clear HX
    obtain ⟨i, out, rfl, hi, hol, HX, HE⟩ := hrel
    have HOL := Aside0.mk hol
    clear hol
    by_cases hlt : i < row.length
    · have HLT := Aside0.mk hlt
      obtain ⟨ad, rfl, hx⟩ := Kd.at_int HR.out (i : Int) (by omega) (by omega)
      simp only [Int.toNat_natCast] at hx
      have y := HX.out.fr.cell hx id
      have hro := HRO.out i hlt
      have HK0 := Aside0.mk (HA.out.go HX.out.fr)
      obtain ⟨e0, e1, e2, e3, e4, e5, e6⟩ := HK0.out.cells
      have HD := Aside0.mk (drop_rd hlt)
      clear hx
      generalize rd row (i : Int) = x at y hro HD
      go_wp2_with (fail)
      refine (isRule_calls wr G A0 A1 A2 A3 c0 c1 c2 c3 HK0.out.g hK x hro.1 (by omega)).mono ?_
      rintro e W2 ⟨rfl, hF2⟩
      have HX2 := Aside0.mk (HX.out.go hF2)
      have HK2 := Aside0.mk (HK0.out.go hF2)
      clear HX HK0 y hF2 e0 e1 e2 e3 e4 e5 e6
      obtain ⟨e0, e1, e2, e3, e4, e5, e6⟩ := HK2.out.cells
      obtain ⟨Am, cm, em, hcm, hCm⟩ := Kd.R_reads HX2.out.row
      injection em with em1 em2 em3
      subst em1
      by_cases hxk : x < G.kinds.length
      · rw [if_pos hxk]
        have hx0 : 0 ≤ x := by omega
        have hxl : x < (G.kinds.length : Nat) := hxk
        obtain ⟨adm, ea, hxm⟩ := Kd.at_bool hCm x hx0 (by rw [HOL.out]; exact hxl)
        injection ea with ea
        subst ea
        rw [add_plain] at hxm
        obtain ⟨_, _, _, q, _, cells, hcells⟩ := (Kd.R_bound HX2.out.row).1 gb rfl
        have hfz := blk_frozen hcells x.toNat
        have hgb := Kd.R_base HX2.out.row gb rfl
        have hput := HX2.out.row
        rw [← HOL.out] at hput
        obtain ⟨hp1, hp2⟩ := Kd.R_put hput x true
        rw [HOL.out] at hp1
        have HP := Aside0.mk hp1
        have HF2 := Aside0.mk (HX2.out.fr.grown hp2 (fun k hk hlt => by injection hk with hk; omega))
        have HE2 := Aside0.mk (show rowF G.kinds.length N F (List.replicate G.kinds.length false) row = (out.set x.toNat true, false) by rw [HE.out, HD.out]; simp only [rowF, if_pos hxk])
        clear hput hp1 hp2 hcells hCm hcm em2 em3
        go_wp2_with (fail)
        go_ret2
        exact ⟨_, (by rw [HE2.out]; rfl), by rw [HE2.out]; exact HP.out, HF2.out⟩
      · rw [if_neg hxk]
        clear hCm hcm em2 em3
        have ha0 : 0 ≤ x - G.kinds.length := by omega
        have ha1 : x - G.kinds.length < (G.rules.length : Nat) := by omega
        have hge : ¬ (x - (G.kinds.length : Int) < 0) := by omega
        have HAN := Aside0.mk (show x - (G.kinds.length : Int) = (((x - (G.kinds.length : Int)).toNat : Nat) : Int) by omega)
        have hfk := HK2.out.fk (x - (G.kinds.length : Int)).toNat (by omega)
        rw [← HAN.out] at hfk
        obtain ⟨adf, Af, cf, rfl, hxf, hcf, hCf⟩ := at_L7 HA.out.first (x - G.kinds.length) ha0 (by rw [HK2.out.fl]; exact ha1)
        have hxf := HX2.out.fr.cell hxf id
        obtain ⟨adn, rfl, hxn⟩ := Kd.at_bool HK2.out.null (x - G.kinds.length) ha0 (by rw [HK2.out.nl]; exact ha1)
        have HFK := Aside0.mk hfk
        have HCF := Aside0.mk hCf
        have HFN := Aside0.mk (show rowF G.kinds.length N F (List.replicate G.kinds.length false) row = if rdOf false N (x - G.kinds.length) = true then rowF G.kinds.length N F (joinL out (rd_L7 F (x - G.kinds.length)) (rd_L7 F (x - G.kinds.length)).length) (row.drop (i + 1)) else (joinL out (rd_L7 F (x - G.kinds.length)) (rd_L7 F (x - G.kinds.length)).length, false) by rw [HE.out, HD.out]; simp only [rowF, if_neg hxk])
        have hfl := HK2.out.fl
        have hnl := HK2.out.nl
        rw [hfl] at e6
        rw [hnl] at e5
        clear hCf hfk hfl hnl hxk
        generalize x - (G.kinds.length : Int) = a at ha0 ha1 hge hxf hxn HFK HCF HFN
        have hgb := Kd.R_base HX2.out.row gb rfl
        have HNE := Aside0.mk (show ∀ ad, Af = some ad → 0 < (rd_L7 F a).length → ad.block ≠ gb from fun ad e hp => by
          obtain ⟨ad2, e2, hc2⟩ := Kd.at_bool HCF.out 0 (by omega) (by omega)
          rw [e] at e2
          injection e2 with e2
          subst e2
          have := World.block_lt_of_cell? _ _ hc2
          rw [Fr.add_block] at this
          omega)
        have hgw := Aside0.mk hgb
        clear hgb
        go_wp2_with (fail)
        have hrow2 := HX2.out.row
        rw [← HOL.out] at hrow2
        have hj := join_calls W2 w.heap.size gb cap (fun _ => True) out (rd_L7 F a) Af cf hrow2 (Kd.C_below HCF.out HX2.out.fr.to_below) HNE.out (by rw [HFK.out, HOL.out]; exact Nat.le_refl _)
        rw [HOL.out] at hj
        refine hj.mono ?_
        rintro e W3 ⟨rfl, hR3, hF3⟩
        have HX3 := Aside0.mk (show OW w W3 (.slice (some ⟨gb, 0, none⟩) G.kinds.length cap) (joinL out (rd_L7 F a) (rd_L7 F a).length) from ⟨HX2.out.fr.trans hF3 (fun k hk e => by have := hgw.out; omega), hR3⟩)
        have HK3 := Aside0.mk (HA.out.go HX3.out.fr)
        have HOL3 := Aside0.mk (show (joinL out (rd_L7 F a) (rd_L7 F a).length).length = G.kinds.length by rw [joinL_length]; exact HOL.out)
        obtain ⟨adn2, ean, hxn2⟩ := Kd.at_bool HK3.out.null a ha0 (by rw [HK3.out.nl]; exact ha1)
        injection ean with ean
        subst ean
        clear HX2 HK2 hrow2 hj hR3 hF3 e0 e1 e2 e3 e4 e5 e6 hxn hxf hcf
        obtain ⟨e0, e1, e2, e3, e4, e5, e6⟩ := HK3.out.cells
        have hfl := HK3.out.fl
        have hnl := HK3.out.nl
        rw [hfl] at e6
        rw [hnl] at e5
        clear hfl hnl
        cases hb : rdOf false N a with
        | true =>
          rw [hb] at hxn2
          have HE3 := Aside0.mk (show rowF G.kinds.length N F (List.replicate G.kinds.length false) row = rowF G.kinds.length N F (joinL out (rd_L7 F a) (rd_L7 F a).length) (row.drop (i + 1)) by rw [HFN.out, if_pos hb])
          go_wp2_with (fail)
          exact ⟨⟨i + 1, _, by go_num, HLT.out, HOL3.out, HX3, HE3⟩, by have := HLT.out; simp [intOf]; omega⟩
        | false =>
          rw [hb] at hxn2
          have HE2 := Aside0.mk (show rowF G.kinds.length N F (List.replicate G.kinds.length false) row = (joinL out (rd_L7 F a) (rd_L7 F a).length, false) by rw [HFN.out, if_neg (by rw [hb]; decide)])
          go_wp2_with (fail)
          go_ret2
          exact ⟨_, (by rw [HE2.out]; rfl), by rw [HE2.out]; exact HX3.out.row, HX3.out.fr⟩
    · obtain rfl : i = row.length := by omega
      have HE2 := Aside0.mk (show rowF G.kinds.length N F (List.replicate G.kinds.length false) row = (out, true) by rw [HE.out, List.drop_length]; rfl)
      go_wp2_with (fail)
      go_ret2
      exact ⟨_, (by rw [HE2.out]; rfl), by rw [HE2.out]; exact HX.out.row, HX.out.fr⟩
end Go.Proofs.Ytdngobjcdajogaa.Gram
namespace Go.Proofs.Ytdngobjcdajogaa.Gram
open Go.RowKit Go.Proofs.YtdngobjcdajogaaW.PrintWords Go.Proofs.YtdngobjcdajogaaW.PrintLast Go.Proofs.YtdngobjcdajogaaW.PrintMore Go.Proofs.Ytdngobjcdajogaa.Fr Go.Proofs.Ytdngobjcdajogaa.PGramFirsts Go.Proofs.Ytdngobjcdajogaa.TextSet
/-- A row of symbols begins with a kind. -/
inductive Fst (G : Gr) : List Int → Nat → Prop where
  | kind (x : Int) (l : List Int) : x < G.kinds.length → Fst G (x :: l) x.toNat
  | rule (x : Int) (l : List Int) (i t : Nat) : ¬ x < G.kinds.length → i < G.prods.length → (rd_T57 G.prods i).f0 = x - G.kinds.length → Fst G (rd_T57 G.prods i).f1 t → Fst G (x :: l) t
  | skip (x : Int) (l : List Int) (t : Nat) : ¬ x < G.kinds.length → Der G false (x - G.kinds.length).toNat → Fst G l t → Fst G (x :: l) t
/-- A rule's rows begin with a kind. -/
def FstR (G : Gr) (a t : Nat) : Prop := ∃ i, i < G.prods.length ∧ (rd_T57 G.prods i).f0 = a ∧ Fst G (rd_T57 G.prods i).f1 t
/-- The sets have the grammar's size. -/
structure Sized (G : Gr) (F : List (List Bool)) : Prop where
  fl : F.length = G.rules.length
  fk : ∀ i : Nat, i < G.rules.length → (rd_L7 F i).length = G.kinds.length
def begB (K : Nat) (N : List Bool) (F : List (List Bool)) : List Int → Nat → Bool
  | [], _ => false
  | x :: l, t => if x < K then t == x.toNat else (rdOf false (rd_L7 F (x - K)) (t : Int) || (rdOf false N (x - K) && begB K N F l t))
def empB (K : Nat) (N : List Bool) : List Int → Bool
  | [] => true
  | x :: l => if x < K then false else (rdOf false N (x - K) && empB K N l)
def SymsOk (G : Gr) (l : List Int) : Prop := ∀ x, x ∈ l → 1 ≤ x ∧ x < G.kinds.length + G.rules.length
theorem RowOk.syms {G : Gr} {l : List Int} (h : RowOk G.kinds.length G.rules.length l) : SymsOk G l := fun x hx => by
  obtain ⟨j, hj, rfl⟩ := mem_rd hx
  exact h j hj
theorem rowF_spec {G : Gr} {N : List Bool} {F : List (List Bool)} (hF : Sized G F) : ∀ (l : List Int) (out : List Bool), SymsOk G l → out.length = G.kinds.length →
    (rowF G.kinds.length N F out l).1.length = G.kinds.length ∧ (rowF G.kinds.length N F out l).2 = empB G.kinds.length N l ∧ ∀ t : Nat, rdOf false (rowF G.kinds.length N F out l).1 (t : Int) = (rdOf false out (t : Int) || begB G.kinds.length N F l t)
  | [], out, _, ho => ⟨ho, rfl, fun t => by simp [rowF, begB]⟩
  | x :: l, out, hs, ho => by
    have hx := hs x List.mem_cons_self
    by_cases hk : x < G.kinds.length
    · simp only [rowF, begB, empB, if_pos hk]
      refine ⟨by rw [List.length_set]; exact ho, trivial, fun t => ?_⟩
      rw [rdOf_set (by omega)]
      by_cases e : t = x.toNat
      · rw [if_pos e]; simp [e]
      · rw [if_neg e]; simp [e]
    · have hfk := hF.fk (x - (G.kinds.length : Int)).toNat (by omega)
      rw [Int.toNat_of_nonneg (by omega)] at hfk
      have hj : (joinL out (rd_L7 F (x - G.kinds.length)) (rd_L7 F (x - G.kinds.length)).length).length = G.kinds.length := by rw [joinL_length]; exact ho
      have hat : ∀ t : Nat, rdOf false (joinL out (rd_L7 F (x - G.kinds.length)) (rd_L7 F (x - G.kinds.length)).length) (t : Int) = (rdOf false out (t : Int) || rdOf false (rd_L7 F (x - G.kinds.length)) (t : Int)) := fun t => by
        rw [joinL_at _ _ (by omega) _ (Nat.le_refl _)]
        by_cases ht : t < (rd_L7 F (x - G.kinds.length)).length
        · simp [ht]
        · simp [ht, rdOf, List.getD_eq_getElem?_getD]
      simp only [rowF, begB, empB, if_neg hk]
      by_cases hn : rdOf false N (x - G.kinds.length) = true
      · rw [if_pos hn]
        obtain ⟨h1, h2, h3⟩ := rowF_spec hF l _ (fun y hy => hs y (List.mem_cons_of_mem _ hy)) hj
        refine ⟨h1, by rw [h2, hn]; simp, fun t => ?_⟩
        rw [h3, hat, hn, Bool.true_and, Bool.or_assoc]
      · rw [if_neg hn]
        refine ⟨hj, by simp [hn], fun t => ?_⟩
        rw [hat]
        simp [hn]
/-- Only what rows begin with is there. -/
def Sound (G : Gr) (F : List (List Bool)) : Prop := ∀ a t : Nat, rdOf false (rd_L7 F a) (t : Int) = true → FstR G a t
/-- What production i begins with is there. -/
def ClosedAt (G : Gr) (F : List (List Bool)) (i : Nat) : Prop := ∀ t : Nat, begB G.kinds.length (closedL G false) F (rd_T57 G.prods i).f1 t = true → rdOf false (rd_L7 F (rd_T57 G.prods i).f0) (t : Int) = true
theorem null_at {G : Gr} {x : Int} (h1 : ¬ x < G.kinds.length) (h2 : x < G.kinds.length + G.rules.length) : rdOf false (closedL G false) (x - G.kinds.length) = true ↔ Der G false (x - G.kinds.length).toNat := by
  have := closedL_at (G := G) (kinds := false) (a := (x - (G.kinds.length : Int)).toNat) (by omega)
  rwa [Int.toNat_of_nonneg (by omega)] at this
theorem beg_sound {G : Gr} {F : List (List Bool)} (hS : Sound G F) : ∀ (l : List Int) (t : Nat), SymsOk G l → begB G.kinds.length (closedL G false) F l t = true → Fst G l t
  | [], t, _, h => by simp [begB] at h
  | x :: l, t, hs, h => by
    have hx := hs x List.mem_cons_self
    by_cases hk : x < G.kinds.length
    · simp only [begB, if_pos hk, beq_iff_eq] at h
      subst h
      exact .kind x l hk
    · simp only [begB, if_neg hk, Bool.or_eq_true, Bool.and_eq_true] at h
      rcases h with h | ⟨hn, h⟩
      · have e : x - (G.kinds.length : Int) = (((x - (G.kinds.length : Int)).toNat : Nat) : Int) := by omega
        rw [e] at h
        obtain ⟨i, hi, e2, hf⟩ := hS _ t h
        exact .rule x l i t hk hi (by rw [e2]; omega) hf
      · exact .skip x l t hk ((null_at hk hx.2).1 hn) (beg_sound hS l t (fun y hy => hs y (List.mem_cons_of_mem _ hy)) h)
theorem beg_done {G : Gr} {F : List (List Bool)} (hP : ProdsOk G) (hC : ∀ i, i < G.prods.length → ClosedAt G F i) {l : List Int} {t : Nat} (h : Fst G l t) (hs : SymsOk G l) : begB G.kinds.length (closedL G false) F l t = true := by
  induction h with
  | kind x l hk => simp [begB, hk]
  | rule x l i t hk hi e hf ih =>
    have hx := hs x List.mem_cons_self
    have h1 := hC i hi t (ih (hP i hi).2.2.2.syms)
    rw [e] at h1
    simp [begB, hk, h1]
  | skip x l t hk hd hf ih =>
    have hx := hs x List.mem_cons_self
    simp [begB, hk, (null_at hk hx.2).2 hd, ih (fun y hy => hs y (List.mem_cons_of_mem _ hy))]
open Classical in
/-- With what the rules' rows begin. -/
noncomputable def firstL (G : Gr) : List (List Bool) := (List.range G.rules.length).map fun a => (List.range G.kinds.length).map fun t => decide (FstR G a t)
theorem first_at {G : Gr} {a t : Nat} (ha : a < G.rules.length) (ht : t < G.kinds.length) : rdOf false (rd_L7 (firstL G) a) (t : Int) = true ↔ FstR G a t := by
  simp [firstL, rdOf, rd_L7, List.getD_eq_getElem?_getD, ha, ht]
theorem firstL_sized (G : Gr) : Sized G (firstL G) := ⟨by simp [firstL], fun i hi => by simp [firstL, rd_L7, List.getD_eq_getElem?_getD, hi]⟩
theorem first_eq {G : Gr} {F : List (List Bool)} (hP : ProdsOk G) (hF : Sized G F) (hS : Sound G F) (hC : ∀ i, i < G.prods.length → ClosedAt G F i) : F = firstL G := by
  apply List.ext_getElem (by rw [hF.fl, (firstL_sized G).fl])
  intro a h1 h2
  have ha : a < G.rules.length := by rw [← hF.fl]; exact h1
  have e1 : rd_L7 F a = F[a] := by simp [rd_L7, List.getD_eq_getElem?_getD, h1]
  have e2 : rd_L7 (firstL G) a = (firstL G)[a] := by simp [rd_L7, List.getD_eq_getElem?_getD, h2]
  have l1 := hF.fk a ha
  have l2 := (firstL_sized G).fk a ha
  rw [← e1, ← e2]
  apply List.ext_getElem (by rw [l1, l2])
  intro t h3 h4
  have ht : t < G.kinds.length := by omega
  have e3 : rdOf false (rd_L7 F a) (t : Int) = (rd_L7 F a)[t] := by simp [rdOf, List.getD_eq_getElem?_getD, h3]
  have e4 : rdOf false (rd_L7 (firstL G) a) (t : Int) = (rd_L7 (firstL G) a)[t] := by simp [rdOf, List.getD_eq_getElem?_getD, h4]
  rw [← e3, ← e4]
  have h5 := first_at ha ht
  have h6 : rdOf false (rd_L7 F a) (t : Int) = true ↔ FstR G a t := ⟨hS a t, fun ⟨i, hi, e, hf⟩ => by
    have := hC i hi t (beg_done hP hC hf (hP i hi).2.2.2.syms)
    rwa [e] at this⟩
  cases ha1 : rdOf false (rd_L7 F a) (t : Int) <;> cases ha2 : rdOf false (rd_L7 (firstL G) a) (t : Int) <;> simp_all
theorem set_falses {l : List Bool} {k : Nat} (hk : k < l.length) (h : rdOf false l (k : Int) = false) : (l.set k true).count false + 1 = l.count false := by
  have e : l[k] = false := by simpa [rdOf, List.getD_eq_getElem?_getD, hk] using h
  have hp : 0 < l.count false := List.count_pos_iff.2 (e ▸ List.getElem_mem hk)
  rw [List.count_set hk, e]
  simp
  omega
theorem join_falses (l f : List Bool) (hl : f.length ≤ l.length) : ∀ k, k ≤ f.length → (joinL l f k).count false + (if someL l f k = true then 1 else 0) ≤ l.count false ∧ (someL l f k = false → joinL l f k = l)
  | 0, _ => by simp [joinL, someL]
  | k + 1, hk => by
    obtain ⟨h1, h2⟩ := join_falses l f hl k (by omega)
    have hat : rdOf false (joinL l f k) (k : Int) = rdOf false l (k : Int) := by rw [joinL_at l f hl k (by omega)]; simp
    have hlen : k < (joinL l f k).length := by rw [joinL_length]; omega
    by_cases hf : rdOf false f (k : Int) = true
    · by_cases hlk : rdOf false l (k : Int) = true
      · have h3 := joinL_same (l := l) (f := f) (k := k) (by omega) (by rw [hat, hlk])
        have e1 : joinL l f (k + 1) = joinL l f k := by simp only [joinL, if_pos hf, h3]
        have e2 : someL l f (k + 1) = someL l f k := by simp [someL, hlk]
        rw [e1, e2]
        exact ⟨h1, h2⟩
      · have hlk2 : rdOf false l (k : Int) = false := by simpa using hlk
        have h3 := set_falses hlen (by rw [hat, hlk2])
        have e1 : joinL l f (k + 1) = (joinL l f k).set k true := by simp only [joinL, if_pos hf]
        have e2 : someL l f (k + 1) = true := by simp [someL, hf, hlk2]
        rw [e1, e2]
        refine ⟨?_, fun h => by cases h⟩
        rw [if_pos rfl]
        split at h1 <;> omega
    · have e1 : joinL l f (k + 1) = joinL l f k := by simp only [joinL, if_neg hf]
      have e2 : someL l f (k + 1) = someL l f k := by simp [someL, hf]
      rw [e1, e2]
      exact ⟨h1, h2⟩
theorem join_none {l f : List Bool} (hl : f.length ≤ l.length) (h : someL l f f.length = false) (t : Nat) (ht : rdOf false f (t : Int) = true) : rdOf false l (t : Int) = true := by
  have h2 := (join_falses l f hl f.length (Nat.le_refl _)).2 h
  have h3 := joinL_at l f hl f.length (Nat.le_refl _) t
  rw [h2, ht] at h3
  by_cases hlt : t < f.length
  · simpa [hlt] using h3
  · simp [rdOf, List.getD_eq_getElem?_getD, List.getElem?_eq_none (Nat.le_of_not_lt hlt)] at ht
/-- How many marks are not set in all the sets. -/
def falses (F : List (List Bool)) : Nat := (F.map (·.count false)).sum
theorem falses_set : ∀ (F : List (List Bool)) (a : Nat) (r : List Bool) (d : Nat), a < F.length → r.count false + d ≤ (F.getD a []).count false → falses (F.set a r) + d ≤ falses F
  | [], a, _, _, h, _ => by simp at h
  | x :: F, 0, r, d, _, h => by simp [falses] at h ⊢; omega
  | x :: F, a + 1, r, d, h, h2 => by
    have := falses_set F a r d (by simpa using h) (by simpa using h2)
    simp [falses] at this ⊢
    omega
theorem falses_fresh (R K : Nat) : falses (freshL R K) = R * K := by simp [falses, freshL]
theorem fresh_sized (G : Gr) : Sized G (freshL G.rules.length G.kinds.length) := ⟨by simp [freshL], fun i hi => by simp [freshL, rd_L7, List.getD_eq_getElem?_getD, hi]⟩
theorem fresh_sound (G : Gr) : Sound G (freshL G.rules.length G.kinds.length) := fun a t h => by
  exfalso
  simp only [rdOf, rd_L7, freshL, Int.toNat_natCast, List.getD_eq_getElem?_getD, List.getElem?_replicate] at h
  by_cases ha : a < G.rules.length
  · simp only [if_pos ha, Option.getD_some, List.getElem?_replicate] at h
    split at h <;> simp at h
  · simp [if_neg ha] at h
theorem rd_set {F : List (List Bool)} {a : Nat} (ha : a < F.length) (r : List Bool) (b : Nat) : rd_L7 (F.set a r) (b : Int) = if b = a then r else rd_L7 F b := by
  simp only [rd_L7, Int.toNat_natCast, List.getD_eq_getElem?_getD, List.getElem?_set]
  by_cases e : a = b
  · subst e; simp [ha]
  · rw [if_neg e, if_neg (fun h => e h.symm)]
theorem Sized.set {G : Gr} {F : List (List Bool)} (h : Sized G F) {a : Nat} {r : List Bool} (ha : a < G.rules.length) (hr : r.length = G.kinds.length) : Sized G (F.set a r) :=
  ⟨by rw [List.length_set]; exact h.fl, fun i hi => by
    rw [rd_set (by rw [h.fl]; exact ha)]
    split
    · exact hr
    · exact h.fk i hi⟩
/-- What a production's row begins with is laid into its rule's set. -/
theorem Sound.next {G : Gr} {F : List (List Bool)} (h : Sound G F) (hF : Sized G F) (hP : ProdsOk G) {i : Nat} (hi : i < G.prods.length) :
    Sound G (F.set (rd_T57 G.prods i).f0.toNat (joinL (rd_L7 F (rd_T57 G.prods i).f0) (rowF G.kinds.length (closedL G false) F (List.replicate G.kinds.length false) (rd_T57 G.prods i).f1).1 G.kinds.length)) := by
  have hp := hP i hi
  obtain ⟨h1, _, h3⟩ := rowF_spec (N := closedL G false) hF _ (List.replicate G.kinds.length false) hp.2.2.2.syms (by simp)
  have e : (rd_T57 G.prods i).f0 = (((rd_T57 G.prods i).f0.toNat : Nat) : Int) := by omega
  have hfk := hF.fk (rd_T57 G.prods i).f0.toNat (by omega)
  rw [← e] at hfk
  intro a t ht
  rw [rd_set (by rw [hF.fl]; omega)] at ht
  split at ht
  · rename_i ea
    rw [joinL_at _ _ (by omega) _ (by omega), h3] at ht
    have e0 : rdOf false (List.replicate G.kinds.length false) (t : Int) = false := by
      simp only [rdOf, Int.toNat_natCast, List.getD_eq_getElem?_getD, List.getElem?_replicate]
      split <;> rfl
    rw [e0, Bool.false_or, Bool.or_eq_true, Bool.and_eq_true] at ht
    rcases ht with ht | ⟨_, ht⟩
    · refine h a t ?_
      rw [ea, ← e]
      exact ht
    · exact ⟨i, hi, by omega, beg_sound h _ t hp.2.2.2.syms ht⟩
  · exact h a t ht
end Go.Proofs.Ytdngobjcdajogaa.Gram
