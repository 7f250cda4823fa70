/-
Actions copied, and compared with themselves: by the printed walks.
-/
import Derived.Test.YtdngobjcdajogaaMAP
import Derived.Test.YtdngobjcdajogaaMAQ
import Derived.Test.YtdngobjcdajogaaMAL
import Derived.KernelRfl
import Derived.Test.YtdngobjcdajogaaMAD
set_option linter.unusedSimpArgs false
set_option linter.unusedVariables false
namespace Go.Proofs.Ytdngobjcdajogaa.Gram
open Go.RowKit Go.Proofs.YtdngobjcdajogaaW.PrintWords Go.Proofs.YtdngobjcdajogaaW.PrintLast Go.Proofs.YtdngobjcdajogaaW.PrintMore Go.Proofs.Ytdngobjcdajogaa.Fr Go.Proofs.Ytdngobjcdajogaa.PGramFirsts Go.Proofs.Ytdngobjcdajogaa.TextSet
inductive Sml : S55 → Prop where
 | mk (a : S55) (hl : a.f3.length ≤ 1000) (hk : ∀ k, k ∈ a.f3 → Sml k) : Sml a
theorem parts_ge (syms : Int) : ∀ (N : Nat) (a : S55), SizeOf.sizeOf a < N → ∀ n : Int, n + 1 ≤ (partsF syms a n).2
 | 0, _, h, _ => absurd h (Nat.not_lt_zero _)
 | N + 1, a, h, n => by
  have key : ∀ (l : List S55), (∀ k, k ∈ l → SizeOf.sizeOf k < N) → ∀ (ok : Bool) (n : Int), n ≤ (kidsF syms l ok n).2 := by
   intro l; induction l with
   | nil => intro _ ok n; simp [kidsF]
   | cons k ks ih =>
    intro hk ok n; simp only [kidsF]; split
    · have h1 := parts_ge syms N k (hk k (List.mem_cons_self ..)) n
      have h2 := ih (fun x hx => hk x (List.mem_cons_of_mem _ hx)) (partsF syms k n).1 (partsF syms k n).2; omega
    · exact ih (fun x hx => hk x (List.mem_cons_of_mem _ hx)) _ _
  rw [partsF_eq]; refine key a.f3 (fun k hk => ?_) _ _; have h2 := List.sizeOf_lt_of_mem hk; have h3 : SizeOf.sizeOf a.f3 < SizeOf.sizeOf a := by
   cases a
   simp
   omega
  omega
theorem kids_false (syms : Int) : ∀ (l : List S55) (n : Int), (kidsF syms l false n).1 = false
 | [], n => by simp [kidsF]
 | k :: ks, n => by
  simp only [kidsF]; rw [if_neg (by simp)]; exact kids_false syms ks n
theorem kids_true (syms : Int) : ∀ (l : List S55) (ok : Bool) (n : Int), (kidsF syms l ok n).1 = true → (l = [] ∨ n + l.length ≤ 257) ∧ ∀ k, k ∈ l → ∃ m, n ≤ m ∧ (partsF syms k m).1 = true
 | [], _, _, _ => ⟨.inl rfl, fun k hk => by cases hk⟩
 | k :: ks, ok, n, h => by
  simp only [kidsF] at h; split at h
  · rename_i hc
    obtain ⟨h1, h2⟩ := kids_true syms ks _ _ h; have hg := parts_ge syms (SizeOf.sizeOf k + 1) k (Nat.lt_succ_self _) n; have hb : (partsF syms k n).1 = true := by
     cases hb : (partsF syms k n).1 with
     | true => rfl
     | false => rw [hb, kids_false] at h; cases h
    refine ⟨.inr ?_, fun x hx => ?_⟩
    · rcases h1 with rfl | h1
      · have := hc.2
        simp only [List.length_cons, List.length_nil]; omega
      · simp only [List.length_cons]
        omega
    · rcases List.mem_cons.1 hx with rfl | hx
      · exact ⟨n, Int.le_refl _, hb⟩
      · obtain ⟨m, hm, hp⟩ := h2 x hx
        exact ⟨m, by omega, hp⟩
  · rw [kids_false] at h
    cases h
theorem sml_upto (syms : Int) : ∀ (N : Nat) (a : S55), SizeOf.sizeOf a < N → ∀ n : Int, 0 ≤ n → (partsF syms a n).1 = true → Sml a
 | 0, _, h, _, _, _ => absurd h (Nat.not_lt_zero _)
 | N + 1, a, h, n, h0, hp => by
  rw [partsF_eq] at hp; obtain ⟨h1, h2⟩ := kids_true syms _ _ _ (Bool.and_eq_true _ _ ▸ hp).1; refine .mk a ?_ (fun k hk => ?_)
  · rcases h1 with e | h1
    · rw [e]; exact Nat.zero_le _
    · omega
  · obtain ⟨m, hm, hq⟩ := h2 k hk
    refine sml_upto syms N k ?_ m (by omega) hq; have h2 := List.sizeOf_lt_of_mem hk; have h3 : SizeOf.sizeOf a.f3 < SizeOf.sizeOf a := by
     cases a
     simp
     omega
    omega
theorem ProdOk.sml {K R : Nat} {p : S57} (h : ProdOk K R p) : Sml p.f3 := sml_upto _ _ p.f3 (Nat.lt_succ_self _) 0 (Int.le_refl _) h.act
theorem all_from {α : Type} {P : Nat → α → Prop} (hm : ∀ k m x, k ≤ m → P k x → P m x) : ∀ (l : List α), (∀ x, x ∈ l → ∃ K, P K x) → ∃ K, ∀ x, x ∈ l → P K x
 | [], _ => ⟨0, fun x hx => by cases hx⟩
 | a :: l, h => by
  obtain ⟨K1, h1⟩ := h a (List.mem_cons_self ..); obtain ⟨K2, h2⟩ := all_from hm l (fun x hx => h x (List.mem_cons_of_mem _ hx)); refine ⟨K1 + K2, fun x hx => ?_⟩; rcases List.mem_cons.1 hx with rfl | hx
  · exact hm _ _ _ (Nat.le_add_right _ _) h1
  · exact hm _ _ _ (Nat.le_add_left _ _) (h2 x hx)
theorem copied_mono {a0 a1 : Int} {a2 : ByteArray} {a3 : List S55} {r : Int × Int × ByteArray × List S55} {k m : Nat} (hm : k ≤ m) (h : gram_copied.f k a0 a1 a2 a3 = some r) : gram_copied.f m a0 a1 a2 a3 = some r := by
 induction hm with
 | refl => exact h
 | step _ ih => exact gram_copied.mono _ _ _ _ _ _ ih
theorem drop_T55 {l : List S55} {i : Nat} (h : i < l.length) : l.drop i = rd_T55 l i :: l.drop (i + 1) := by
 rw [List.drop_eq_getElem_cons h]; simp [rd_T55, List.getD_eq_getElem?_getD, h]
theorem mem_T55 {l : List S55} {i : Nat} (h : i < l.length) : rd_T55 l i ∈ l := by
 simp [rd_T55, List.getD_eq_getElem?_getD, h]
theorem copied_l (K : Nat) (a0 a1 : Int) (a2 : ByteArray) (l l' : List S55) (hl : l.length ≤ 1000) (hK : ∀ k, k ∈ l → gram_copied.f K k.f0 k.f1 k.f2 k.f3 = some (k.f0, k.f1, k.f2, k.f3)) : ∀ (n i : Nat) (x : List S55), i + n = l.length → x.length + n ≤ 1000 →
 gram_copied.l0 (K + n + 1) x l (l.length : Int) (i : Int) a0 a1 a2 l' = some (a0, a1, a2, x ++ l.drop i)
 | 0, i, x, h, _ => by
  obtain rfl : i = l.length := by omega
  simp [gram_copied.l0]
 | n + 1, i, x, h, hx => by
  have hi : i < l.length := by omega
  have hw : wrap64 ((i : Int) + 1) = ((i + 1 : Nat) : Int) := by simp only [wrap64]; omega
  have hk := copied_mono (show K ≤ K + (n + 1) by omega) (hK _ (mem_T55 hi)); rw [gram_copied.l0, if_pos (by omega), if_pos (by omega), if_pos (by omega), hk, Option.bind_some, if_pos (by omega), hw]; rw [show K + (n + 1) = K + n + 1 by omega, copied_l K a0 a1 a2 l l' hl hK n (i + 1) _ (by omega) (by simp only [List.length_append, List.length_cons, List.length_nil]; omega), drop_T55 hi]; simp
  cases rd_T55 l (i : Int)
  rfl
theorem copied_some {a : S55} (h : Sml a) : ∃ K, gram_copied.f K a.f0 a.f1 a.f2 a.f3 = some (a.f0, a.f1, a.f2, a.f3) := by
 induction h with
 | mk a hl _ ih =>
  obtain ⟨K, hK⟩ := all_from (P := fun K k => gram_copied.f K k.f0 k.f1 k.f2 k.f3 = some (k.f0, k.f1, k.f2, k.f3)) (fun k m x hm h => copied_mono (a0 := x.f0) (a1 := x.f1) (a2 := x.f2) (a3 := x.f3) hm h) a.f3 ih; refine ⟨K + a.f3.length + 2, ?_⟩; have := copied_l K a.f0 a.f1 a.f2 a.f3 a.f3 hl hK a.f3.length 0 [] (by omega) (by simpa using hl); simpa [gram_copied.f] using this
theorem copied_calls (w : World) (a : S55) (A : Option Addr) (c : Nat) (h : k55.C w A a.f3.length a.f3) (hc : a.f3.length ≤ c) (hs : Sml a) :
 Calls Try.prog 37 #[.agg #[.int .i64 a.f0, .int .i64 a.f1, .string a.f2, .slice A a.f3.length c]] w fun e w' => ∃ v, e = .returned (.agg #[.int .i64 a.f0, .int .i64 a.f1, .string a.f2, v]) ∧ k55.R 55 w' w.heap.size (fun _ => True) v a.f3 ∧ Fr (fun _ => False) w w' := by
 obtain ⟨K, hK⟩ := copied_some hs; refine (gram_copied.calls K a.f0 a.f1 a.f2 A c a.f3 _ _ _ _ w h hc hK).mono ?_; rintro e w' ⟨v, rfl, hR, hB⟩; exact ⟨v, rfl, hR, Fr.of_below hB⟩
theorem sameact_mono {a0 a1 b0 b1 : Int} {a2 b2 : ByteArray} {a3 b3 : List S55} {r : Bool} {k m : Nat} (hm : k ≤ m) (h : quoinref12_sameAct.f k a0 a1 a2 a3 b0 b1 b2 b3 = some r) : quoinref12_sameAct.f m a0 a1 a2 a3 b0 b1 b2 b3 = some r := by
 induction hm with
 | refl => exact h
 | step _ ih => exact quoinref12_sameAct.mono _ _ _ _ _ _ _ _ _ _ ih
theorem sameact_l (K : Nat) (a0 a1 : Int) (a2 : ByteArray) (l : List S55) (hl : l.length ≤ 1000) (hK : ∀ k, k ∈ l → quoinref12_sameAct.f K k.f0 k.f1 k.f2 k.f3 k.f0 k.f1 k.f2 k.f3 = some true) : ∀ (n i : Nat), i + n = l.length →
 quoinref12_sameAct.l0 (K + n + 1) (i : Int) a0 a1 a2 l a0 a1 a2 l = some true
 | 0, i, h => by
  obtain rfl : i = l.length := by omega
  simp [quoinref12_sameAct.l0]
 | n + 1, i, h => by
  have hi : i < l.length := by omega
  have hw : wrap64 ((i : Int) + 1) = ((i + 1 : Nat) : Int) := by simp only [wrap64]; omega
  have hk := sameact_mono (show K ≤ K + (n + 1) by omega) (hK _ (mem_T55 hi)); rw [quoinref12_sameAct.l0, if_pos (by omega), if_pos (by omega), if_pos (by omega), hk, Option.bind_some, if_pos rfl, hw]; rw [show K + (n + 1) = K + n + 1 by omega]; exact sameact_l K a0 a1 a2 l hl hK n (i + 1) (by omega)
theorem sameact_some {a : S55} (h : Sml a) : ∃ K, quoinref12_sameAct.f K a.f0 a.f1 a.f2 a.f3 a.f0 a.f1 a.f2 a.f3 = some true := by
 induction h with
 | mk a hl _ ih =>
  obtain ⟨K, hK⟩ := all_from (P := fun K (k : S55) => quoinref12_sameAct.f K k.f0 k.f1 k.f2 k.f3 k.f0 k.f1 k.f2 k.f3 = some true) (fun k m x hm h => sameact_mono (a0 := x.f0) (a1 := x.f1) (a2 := x.f2) (a3 := x.f3) (b0 := x.f0) (b1 := x.f1) (b2 := x.f2) (b3 := x.f3) hm h) a.f3 ih; refine ⟨K + a.f3.length + 3, ?_⟩; have := sameact_l K a.f0 a.f1 a.f2 a.f3 hl hK a.f3.length 0 (by omega); simpa [quoinref12_sameAct.f, quoinref12_sameAct.j0] using this
theorem sameact_calls (w : World) (a : S55) (A B : Option Addr) (c d : Nat) (h : k55.C w A a.f3.length a.f3) (hc : a.f3.length ≤ c) (h2 : k55.C w B a.f3.length a.f3) (hd : a.f3.length ≤ d) (hs : Sml a) :
 Calls Try.prog 44 #[.agg #[.int .i64 a.f0, .int .i64 a.f1, .string a.f2, .slice A a.f3.length c], .agg #[.int .i64 a.f0, .int .i64 a.f1, .string a.f2, .slice B a.f3.length d]] w fun e w' => e = .returned (.bool true) ∧ Fr (fun _ => False) w w' := by
 obtain ⟨K, hK⟩ := sameact_some hs; refine (quoinref12_sameAct.calls K a.f0 a.f1 a.f2 A c a.f3 a.f0 a.f1 a.f2 B d a.f3 true w h hc h2 hd hK).mono ?_; rintro e w' ⟨rfl, hB⟩; exact ⟨rfl, Fr.of_below hB⟩
theorem samets_l (l : List ByteArray) (hl : l.length ≤ 1000000) : ∀ (n i : Nat), i + n = l.length → quoinref12_sameTexts.l0 (n + 1) l l (i : Int) = some true
 | 0, i, h => by
  obtain rfl : i = l.length := by omega
  simp [quoinref12_sameTexts.l0]
 | n + 1, i, h => by
  have hi : i < l.length := by omega
  have hw : wrap64 ((i : Int) + 1) = ((i + 1 : Nat) : Int) := by simp only [wrap64]; omega
  rw [quoinref12_sameTexts.l0, if_pos (by omega), if_pos (by omega), if_pos (by omega), if_pos rfl, hw]; exact samets_l l hl n (i + 1) (by omega)
theorem samets_calls (w : World) (A B : Option Addr) (n m c d : Nat) (l : List ByteArray) (hn : n = l.length) (hm : m = l.length) (h : Kd.string.C w A l.length l) (hc : l.length ≤ c) (h2 : Kd.string.C w B l.length l) (hd : l.length ≤ d) (hl : l.length ≤ 1000000) :
 Calls Try.prog 43 #[.slice A n c, .slice B m d] w fun e w' => e = .returned (.bool true) ∧ Fr (fun _ => False) w w' := by
 subst hn hm; have hf : quoinref12_sameTexts.f (l.length + 1) l l = some true := by
  have := samets_l l hl l.length 0 (by omega); simpa [quoinref12_sameTexts.f] using this
 refine (quoinref12_sameTexts.calls _ A c l B d l true w h hc h2 hd hf).mono ?_; rintro e w' ⟨rfl, hB⟩; exact ⟨rfl, Fr.drawn hB⟩
theorem whole_calls (w : World) (G : Gr) (A0 A1 A2 A3 MA RA : Option Addr) (c0 c1 c2 c3 mc rc : Nat) (marks : List Bool) (row : List Int) (kinds : Bool) (h : GAt w G A0 A1 A2 A3 c0 c1 c2 c3) (hm : kB.C w MA marks.length marks) (hmc : marks.length ≤ mc) (hr : kI.C w RA row.length row) (hrc : row.length ≤ rc) (hK : G.kinds.length ≤ 1024) (hR : G.rules.length ≤ 2048) (hml : marks.length = G.rules.length) (hrow : RowOk G.kinds.length G.rules.length row) (hl : row.length ≤ 4611686018427387904) :
 Calls Try.prog 33 #[.agg #[.slice A0 G.kinds.length c0, .slice A1 G.precs.length c1, .slice A2 G.rules.length c2, .slice A3 G.prods.length c3, .int .i64 G.start], .slice MA marks.length mc, .slice RA row.length rc, .bool kinds] w fun e w' =>
  e = .returned (.bool (wholeF G.kinds.length marks kinds row)) ∧ Fr (fun _ => False) w w' :=
 (gram_whole.calls (row.length + 1) A0 c0 G.kinds A1 c1 G.precs A2 c2 G.rules A3 c3 G.prods G.start MA mc marks RA rc row kinds (wholeF G.kinds.length marks kinds row) w
  h.kinds h.l0 h.precs h.l1 h.rules h.l2 h.prods h.l3 hm hmc hr hrc (whole_some G.kinds G.precs G.rules G.prods G.start marks kinds _ G.rules.length hK hR hml hrow hl)).mono fun _ _ h => ⟨h.1, Fr.of_below h.2⟩
theorem RowOk.take {K R : Nat} {row : List Int} (h : RowOk K R row) (t : Nat) : RowOk K R (row.take t) := fun j hj => by
 rw [List.length_take] at hj; have := h j (by omega); simpa [rd, List.getD_eq_getElem?_getD, List.getElem?_take, show j < t by omega] using this
theorem RowOk.drop {K R : Nat} {row : List Int} (h : RowOk K R row) (t : Nat) : RowOk K R (row.drop t) := fun j hj => by
 rw [List.length_drop] at hj; have := h (t + j) (by omega); simp only [rd, Int.toNat_natCast, List.getD_eq_getElem?_getD, List.getElem?_drop] at this ⊢; exact this
abbrev kN : Kd (List Int) := Kd.slice 3 kI
theorem rows_grow {W : World} {base n gb cap i : Nat} {xs : List (List Int)} (h : Kd.S kN 27 W base (fun _ => True) (.slice (some ⟨gb, 0, none⟩) n cap) xs) (hi : i < n) :
 ∃ (A : Option Addr) (c : Nat) (oki : Nat → Prop), W.cell? ⟨gb, i, none⟩ = some (.slice A (rd_L3 xs i).length c) ∧ W.frozen? ⟨gb, i, none⟩ = false ∧ kI.R 3 W base (fun k => oki k ∨ W.heap.size ≤ k) (.slice A (rd_L3 xs i).length c) (rd_L3 xs i) ∧ gb < W.heap.size ∧ (∀ k, (Value.slice A (rd_L3 xs i).length c).ownBlock = some k → k ≠ gb ∧ base ≤ k) ∧
  ∀ (W1 : World) (v1 : Value) (b : Int), kI.R 3 W1 base (fun k => oki k ∨ W.heap.size ≤ k) v1 (rd_L3 xs i ++ [b]) → W.grownBy W1 (Value.slice A (rd_L3 xs i).length c).ownBlock →
   Kd.S kN 27 (W1.setCell ⟨gb, i, none⟩ v1) base (fun _ => True) (.slice (some ⟨gb, 0, none⟩) n cap) (xs.set i (rd_L3 xs i ++ [b])) := by
 have hlt : gb < W.heap.size := Kd.S_lt h gb rfl; have h1 := Kd.S_mono (Kd.S_bound h) (fun k hk => (⟨trivial, by have := hk.2.2.1; omega⟩ : True ∧ ¬ W.heap.size ≤ k)); obtain ⟨oki, c, _, hM, hcc, hfr, hok, hH⟩ := Kd.S_elem h1 [] (i : Int) (by omega) (by omega); obtain ⟨ve, rfl, hR⟩ := hM; have e1 : xs.getD (i : Int).toNat [] = rd_L3 xs i := rfl; rw [e1] at hR; obtain ⟨A, k, rfl⟩ := Kd.R_slice hR; have h2 := hcc 0 _ rfl; have h3 := hfr 0; simp only [show kN.sz = 1 from rfl, Nat.mul_one, Nat.add_zero, Int.toNat_natCast] at h2 h3; refine ⟨A, k, oki, h2, h3, Kd.R_mono hR (fun k hk => .inl hk), hlt, fun k hk => ⟨(hok k (hR.1 k hk)).2, Kd.R_base hR k hk⟩, fun W1 v1 b hv hg => ?_⟩; have hH1 := Kd.H_grown hH hg (fun k hk => hR.1 k hk); have hp := Kd.S_seg (okg := fun k => W.heap.size ≤ k) (okp := fun k => oki k ∨ W.heap.size ≤ k) hH1 (by omega) (by omega) (seg := [v1]) (j := 0) (show 1 ≤ 1 from Nat.le_refl 1) (x' := rd_L3 xs i ++ [b]) (Kd.M_row hv) (fun k hk => hk) (fun k hk => ⟨trivial, by omega⟩); simp only [show kN.sz = 1 from rfl, Nat.mul_one, Nat.add_zero, Int.toNat_natCast] at hp; exact hp.1
structure CY (w W : World) (G : Gr) (A0 A1 A2 A3 : Option Addr) (c0 c1 c2 c3 gt capt : Nat) (ok : Nat → Prop) (X : List (List Int)) : Prop where
 chk : ChkW w W G A0 A1 A2 A3 c0 c1 c2 c3
 rows : Kd.S kN 27 W (w.heap.size + 1) ok (.slice (some ⟨gt, 0, none⟩) G.rules.length capt) X
theorem CY.go {w W W1 : World} {G : Gr} {A0 A1 A2 A3 : Option Addr} {c0 c1 c2 c3 gt capt : Nat} {ok : Nat → Prop} {X : List (List Int)} (h : CY w W G A0 A1 A2 A3 c0 c1 c2 c3 gt capt ok X) (hF : Fr (fun _ => False) W W1) : CY w W1 G A0 A1 A2 A3 c0 c1 c2 c3 gt capt ok X := ⟨h.chk.go hF, Kd.S_below h.rows hF.to_below⟩
structure CyOk (G : Gr) (X : List (List Int)) (m : Nat) : Prop where
 len : X.length = G.rules.length
 mem : ∀ (a : Nat) (b : Int), b ∈ rd_L3 X a → 0 ≤ b ∧ b < G.rules.length
 max : ∀ a : Nat, (rd_L3 X a).length ≤ m
theorem CyOk.start (G : Gr) : CyOk G (List.replicate G.rules.length []) 0 := by
 have h : ∀ a : Nat, rd_L3 (List.replicate G.rules.length []) (a : Int) = [] := fun a => by
  simp only [rd_L3, List.getD_eq_getElem?_getD, List.getElem?_replicate]; split <;> rfl
 exact ⟨by simp, fun a b hb => (by rw [h] at hb; cases hb), fun a => by rw [h]; exact Nat.le_refl _⟩
theorem rd3_set {X : List (List Int)} {a : Nat} (ha : a < X.length) (r : List Int) (b : Nat) : rd_L3 (X.set a r) (b : Int) = if b = a then r else rd_L3 X b := by
 simp only [rd_L3, Int.toNat_natCast, List.getD_eq_getElem?_getD, List.getElem?_set]; by_cases e : a = b
 · subst e; simp [ha]
 · rw [if_neg e, if_neg (fun h => e h.symm)]
theorem CyOk.next {G : Gr} {X : List (List Int)} {m a : Nat} {b : Int} (h : CyOk G X m) (ha : a < G.rules.length) (h0 : 0 ≤ b) (h1 : b < G.rules.length) : CyOk G (X.set a (rd_L3 X a ++ [b])) (m + 1) := by
 refine ⟨by simp [h.len], fun j y hy => ?_, fun j => ?_⟩
 · rw [rd3_set (by rw [h.len]; exact ha)] at hy
   split at hy
   · rcases List.mem_append.1 hy with hy | hy
     · exact h.mem _ _ hy
     · rw [List.mem_singleton] at hy; rw [hy]; exact ⟨h0, h1⟩
   · exact h.mem _ _ hy
 · rw [rd3_set (by rw [h.len]; exact ha)]
   have h2 := h.max j; have h3 := h.max a; split
   · simp only [List.length_append, List.length_cons, List.length_nil]; omega
   · omega
theorem CyOk.more {G : Gr} {X : List (List Int)} {m k : Nat} (h : CyOk G X m) (hk : m ≤ k) : CyOk G X k := ⟨h.len, h.mem, fun a => Nat.le_trans (h.max a) hk⟩
theorem CY.put {w W W1 : World} {G : Gr} {A0 A1 A2 A3 : Option Addr} {c0 c1 c2 c3 gt capt i : Nat} {ok : Nat → Prop} {X X' : List (List Int)} {v1 : Value} {row : Option Nat} (h : CY w W G A0 A1 A2 A3 c0 c1 c2 c3 gt capt ok X) (hg : W.grownBy W1 row) (hr : ∀ k, row = some k → w.heap.size + 1 ≤ k) (hS : Kd.S kN 27 (W1.setCell ⟨gt, i, none⟩ v1) (w.heap.size + 1) ok (.slice (some ⟨gt, 0, none⟩) G.rules.length capt) X') :
 CY w (W1.setCell ⟨gt, i, none⟩ v1) G A0 A1 A2 A3 c0 c1 c2 c3 gt capt ok X' := by
 have hgt : w.heap.size + 1 ≤ gt := Kd.S_base h.rows gt rfl; have hF : Fr (fun k => w.heap.size + 1 ≤ k) W (W1.setCell ⟨gt, i, none⟩ v1) := ((Fr.refl (fun k => w.heap.size + 1 ≤ k) W).grown hg (fun k hk _ => hr k hk)).set v1 (fun _ => hgt); exact ⟨⟨hF.blk h.chk.box (by omega), h.chk.fr.trans hF (fun k hk e => by omega)⟩, hS⟩
structure DF (w W : World) (G : Gr) (A0 A1 A2 A3 : Option Addr) (c0 c1 c2 c3 gt capt n go co gm cm : Nat) (X : List (List Int)) (O M : List Bool) (v : Value) (l : List Int) : Prop where
 cy : CY w W G A0 A1 A2 A3 c0 c1 c2 c3 gt capt (fun k => k < n) X
 out : kB.R 4 W (w.heap.size + 1) (fun k => k = go) (.slice (some ⟨go, 0, none⟩) G.rules.length co) O
 met : kB.R 4 W (w.heap.size + 1) (fun k => k = gm) (.slice (some ⟨gm, 0, none⟩) G.rules.length cm) M
 ne : gm ≠ go
 stk : kI.R 3 W n (fun _ => True) v l
 lo : w.heap.size + 1 ≤ n
theorem typed_ne {W : World} {g k t u : Nat} {c1 c2 : Array Value} (h1 : W.heap[g]? = some (.cells c1 t (0, 0))) (h2 : W.heap[k]? = some (.cells c2 u (0, 0))) (h : t ≠ u) : g ≠ k := fun e => by
 subst e; rw [h1] at h2; injection h2 with h2
 injection h2 with _ h2
 exact h h2
theorem DF.go {w W W1 : World} {G : Gr} {A0 A1 A2 A3 : Option Addr} {c0 c1 c2 c3 gt capt n go co gm cm : Nat} {X : List (List Int)} {O M : List Bool} {v : Value} {l : List Int} (h : DF w W G A0 A1 A2 A3 c0 c1 c2 c3 gt capt n go co gm cm X O M v l) (hF : Fr (fun _ => False) W W1) : DF w W1 G A0 A1 A2 A3 c0 c1 c2 c3 gt capt n go co gm cm X O M v l :=
 ⟨h.cy.go hF, hF.R h.out (fun _ _ => id), hF.R h.met (fun _ _ => id), h.ne, hF.R h.stk (fun _ _ => id), h.lo⟩
theorem DF.push {w W W1 : World} {G : Gr} {A0 A1 A2 A3 : Option Addr} {c0 c1 c2 c3 gt capt n go co gm cm : Nat} {X : List (List Int)} {O M : List Bool} {v v1 : Value} {l l1 : List Int} (h : DF w W G A0 A1 A2 A3 c0 c1 c2 c3 gt capt n go co gm cm X O M v l) (hg : W.grownBy W1 v.ownBlock) (h1 : kI.R 3 W1 n (fun _ => True) v1 l1) : DF w W1 G A0 A1 A2 A3 c0 c1 c2 c3 gt capt n go co gm cm X O M v1 l1 := by
 have hF : Fr (fun k => v.ownBlock = some k) W W1 := ⟨hg.os, hg.tape, hg.output, hg.size, fun i hi hn => hg.block i hi (fun e => hn e.symm)⟩; have hb : ∀ k, v.ownBlock = some k → n ≤ k := fun k hk => Kd.R_base h.stk k hk
 have hlo := h.lo; have ho : ∀ k, v.ownBlock = some k → k ≠ go ∧ k ≠ gm := fun k hk => by
  obtain ⟨c1, e1⟩ := Kd.R_typed h.stk k hk; obtain ⟨c2, e2⟩ := Kd.R_typed h.out go rfl; obtain ⟨c3, e3⟩ := Kd.R_typed h.met gm rfl; exact ⟨typed_ne e1 e2 (by decide), typed_ne e1 e3 (by decide)⟩
 refine ⟨⟨⟨hF.blk h.cy.chk.box (fun e => by have := hb _ e; omega), h.cy.chk.fr.trans hF (fun k hk e => by have := hb _ e; omega)⟩, ?_⟩, hF.R h.out (fun k hk e => by rw [hk] at e; exact (ho go e).1 rfl), hF.R h.met (fun k hk e => by rw [hk] at e; exact (ho gm e).2 rfl), h.ne, h1, hlo⟩; exact Kd.S_grown h.cy.rows hg (fun k hk e => by have := hb k e.symm; omega)
theorem DF.mark {w W : World} {G : Gr} {A0 A1 A2 A3 : Option Addr} {c0 c1 c2 c3 gt capt n go co gm cm : Nat} {X : List (List Int)} {O M : List Bool} {v : Value} {l : List Int} (h : DF w W G A0 A1 A2 A3 c0 c1 c2 c3 gt capt n go co gm cm X O M v l) (i : Int) : DF w (W.setCell ⟨gm, i.toNat, none⟩ (.bool true)) G A0 A1 A2 A3 c0 c1 c2 c3 gt capt n go co gm cm X O (M.set i.toNat true) v l := by
 have hF : Fr (fun k => k = gm) W (W.setCell ⟨gm, i.toNat, none⟩ (.bool true)) := (Fr.refl (fun k => k = gm) W).set (g := gm) (o := i.toNat) _ (fun _ => rfl); have hgm := Kd.R_base h.met gm rfl; obtain ⟨cc, hc⟩ := Kd.R_typed h.met gm rfl; refine ⟨⟨⟨hF.blk h.cy.chk.box (by omega), h.cy.chk.fr.trans hF (fun k hk e => by omega)⟩, ?_⟩, hF.R h.out (fun k hk e => h.ne (by rw [← e, hk])), Kd.R_putn h.met i true, h.ne, Kd.R_set h.stk hc (by decide) i.toNat _, h.lo⟩; exact Kd.S_set h.cy.rows hc (by decide) i.toNat _
theorem marks_at {W : World} {B g n cap : Nat} {ok : Nat → Prop} {M : List Bool} (h : kB.R 4 W B ok (.slice (some ⟨g, 0, none⟩) n cap) M) {i : Int} (h0 : 0 ≤ i) (h1 : i < n) : W.cell? ⟨g, i.toNat, none⟩ = some (.bool (rdOf false M i)) ∧ W.frozen? ⟨g, i.toNat, none⟩ = false := by
 obtain ⟨e1, _, hC⟩ := Kd.R_reads' h; obtain ⟨adm, ea, hxm⟩ := Kd.at_bool hC i h0 (by omega); injection ea with ea
 subst ea; rw [add_plain] at hxm; obtain ⟨_, _, _, q, _, cells, hcells⟩ := (Kd.R_bound h).1 g rfl; exact ⟨hxm, blk_frozen hcells i.toNat⟩
theorem stack_pop {W : World} {B : Nat} {ok : Nat → Prop} {v : Value} {l : List Int} (h : kI.R 3 W B ok v l) (hl : l ≠ []) :
 ∃ (ad : Addr) (c n : Nat) (b : Int) (l' : List Int), v = .slice (some ad) n c ∧ n = l.length ∧ 1 ≤ n ∧ W.cell? (ad.add (n - 1)) = some (.int .i64 b) ∧ l = l' ++ [b] ∧ (∀ W : World, (Instr.slice 27 (.slice (some ad) n c) none (some (.int .i64 ((n : Int) - 1))) none).run Try.prog W = .ok (.slice (some ad) (n - 1) c) W) ∧ kI.R 3 W B ok (.slice (some ad) (n - 1) c) l' := by
 have hp : 1 ≤ l.length := by
  rcases l with _ | ⟨x, l⟩
  · exact absurd rfl hl
  · simp
 obtain ⟨A, c, rfl⟩ := Kd.R_slice h; obtain ⟨_, hc, hC⟩ := Kd.R_reads' h; obtain ⟨ad, rfl, hx⟩ := Kd.at_int hC ((l.length : Int) - 1) (by omega) (by omega); obtain ⟨i0, hi0, _, _, _⟩ := info_parts info3; have ht := Kd.R_take (m := ((l.length : Int) - 1).toNat) h (by omega); have e : ((l.length : Int) - 1).toNat = l.length - 1 := by omega
 have hl2 : l = l.take (l.length - 1) ++ [rd l ((l.length : Int) - 1)] := by
  have h2 := List.take_append_getElem (l := l) (i := l.length - 1) (by omega); rw [show l.length - 1 + 1 = l.length by omega, List.take_length] at h2; have e2 : rd l ((l.length : Int) - 1) = l[l.length - 1]'(by omega) := by
   simp only [rd, e, List.getD_eq_getElem?_getD]; rw [List.getElem?_eq_getElem (by omega)]; rfl
  rw [e2, h2]
 have hcut := cut_to (P := Try.prog) 27 3 .i64 Try.underlying27 hi0 (some ad) l.length c ((l.length : Int) - 1) (by omega) (by omega) hc; rw [e] at hx ht hcut; exact ⟨ad, c, l.length, _, _, rfl, rfl, hp, hx, hl2, hcut, ht⟩
def goodB (K : Nat) (marks : List Bool) (p : S57) : Bool := rdOf false marks p.f0 && wholeF K marks true p.f1
theorem bools_at {W : World} {g n : Nat} {M : List Bool} (h : kB.C W (some ⟨g, 0, none⟩) n M) {i : Int} (h0 : 0 ≤ i) (h1 : i < n) : W.cell? ⟨g, i.toNat, none⟩ = some (.bool (rdOf false M i)) := by
 obtain ⟨adm, ea, hxm⟩ := Kd.at_bool h i h0 h1; injection ea with ea
 subst ea; rwa [add_plain] at hxm
set_option maxHeartbeats 4000000 in
set_option maxRecDepth 100000 in
theorem good_calls (W : World) (G : Gr) (A0 A1 A2 A3 : Option Addr) (c0 c1 c2 c3 : Nat) (h : GAt W G A0 A1 A2 A3 c0 c1 c2 c3) (hK : G.kinds.length ≤ 1024) (hR : G.rules.length ≤ 2048) (p1 p2 gm cap : Nat) (marks : List Bool) (hml : marks.length = G.rules.length) (hm : kB.C W (some ⟨gm, 0, none⟩) marks.length marks) (hmc : marks.length ≤ cap)
 (b1 : W.heap[p1]? = some (.cells #[.slice (some ⟨gm, 0, none⟩) G.rules.length cap] 36 (0, 0))) (b2 : W.heap[p2]? = some (.cells #[.slice A0 G.kinds.length c0, .slice A1 G.precs.length c1, .slice A2 G.rules.length c2, .slice A3 G.prods.length c3, .int .i64 G.start] 26 (0, 0)))
 (p : S57) (l0 : 0 ≤ p.f0) (l1 : p.f0 < G.rules.length) (hro : RowOk G.kinds.length G.rules.length p.f1) (hrl : p.f1.length ≤ 64) (B1 B6 : Option Addr) (d1 d6 : Nat) (hr : kI.C W B1 p.f1.length p.f1) (hd : p.f1.length ≤ d1) :
 Calls Try.prog 32 #[.agg #[.int .i64 p.f0, .slice B1 p.f1.length d1, .int .i64 p.f2, .int .i64 p.f3.f0, .int .i64 p.f3.f1, .string p.f3.f2, .slice B6 p.f3.f3.length d6], .pointer (some ⟨p1, 0, none⟩), .pointer (some ⟨p2, 0, none⟩)] W fun e w' =>
  e = .returned (.bool (goodB G.kinds.length marks p)) ∧ Fr (fun _ => False) W w' := by
 have hu := Try.underlying26; have hu2 := Try.underlying57; have HB := Aside0.mk (blk_new W (.cells #[.int .i64 p.f0, .slice B1 p.f1.length d1, .int .i64 p.f2, .int .i64 p.f3.f0, .int .i64 p.f3.f1, .string p.f3.f2, .slice B6 p.f3.f3.length d6] 57)); have HF := Aside0.mk ((Fr.refl (fun _ => False) W).alloc (.cells #[.int .i64 p.f0, .slice B1 p.f1.length d1, .int .i64 p.f2, .int .i64 p.f3.f0, .int .i64 p.f3.f1, .string p.f3.f2, .slice B6 p.f3.f3.length d6] 57)); have HX := Aside0.mk (fun W' (hF : Fr (fun _ => False) W W') => hF.cell (bools_at hm l0 (by omega)) id); have HB1 := Aside0.mk (fun W' (hF : Fr (fun _ => False) W W') => hF.blk b1 id); have HB2 := Aside0.mk (fun W' (hF : Fr (fun _ => False) W W') => hF.blk b2 id); have HWH := Aside0.mk (fun W' (hF : Fr (fun _ => False) W W') => whole_calls W' G A0 A1 A2 A3 (some ⟨gm, 0, none⟩) B1 c0 c1 c2 c3 cap d1 marks p.f1 true (h.go hF) (Kd.C_below hm hF.to_below) hmc (Kd.C_below hr hF.to_below) hd hK hR hml hro (by omega)); rw [hml] at HWH; have HGD := Aside0.mk (show goodB G.kinds.length marks p = (rdOf false marks p.f0 && wholeF G.kinds.length marks true p.f1) from rfl); generalize wholeF G.kinds.length marks true p.f1 = wb at HWH HGD; generalize rdOf false marks p.f0 = mb at HX HGD; generalize goodB G.kinds.length marks p = gb at HGD; clear h hm b1 b2 hr hro hml hmc; go_enter Try.func32, Try.ntmps32
 go_upto_region 1 with fail
 generalize W.alloc (.cells #[.int .i64 p.f0, .slice B1 p.f1.length d1, .int .i64 p.f2, .int .i64 p.f3.f0, .int .i64 p.f3.f1, .string p.f3.f2, .slice B6 p.f3.f3.length d6] 57) = W0 at HB HF ⊢; generalize W.heap.size = q at HB ⊢; have z0 := (blk_cell HB.out 0).trans (show _ = some (Value.int .i64 p.f0) from rfl); have z1 := (blk_cell HB.out 1).trans (show _ = some (Value.slice B1 p.f1.length d1) from rfl); have m1 := (blk_cell (HB1.out W0 HF.out) 0).trans (show _ = some (Value.slice (some ⟨gm, 0, none⟩) G.rules.length cap) from rfl); have g0 := (blk_cell (HB2.out W0 HF.out) 0).trans (show _ = some (Value.slice A0 G.kinds.length c0) from rfl); have g1 := (blk_cell (HB2.out W0 HF.out) 1).trans (show _ = some (Value.slice A1 G.precs.length c1) from rfl); have g2 := (blk_cell (HB2.out W0 HF.out) 2).trans (show _ = some (Value.slice A2 G.rules.length c2) from rfl); have g3 := (blk_cell (HB2.out W0 HF.out) 3).trans (show _ = some (Value.slice A3 G.prods.length c3) from rfl); have g4 := (blk_cell (HB2.out W0 HF.out) 4).trans (show _ = some (Value.int .i64 G.start) from rfl); have hx := HX.out W0 HF.out; cases mb with
 | false =>
  have HE := Aside0.mk (show gb = false by rw [HGD.out]; rfl); have HF1 := HF; clear HX HB1 HB2 HWH HGD g0 g1 g2 g3 g4; go_wp2_with (fail)
  go_ret
  rw [HE.out]; exact ⟨rfl, HF1.out⟩
 | true =>
  have HE := Aside0.mk (show gb = wb by rw [HGD.out]; rfl); clear HX HB1 HB2 HGD; go_wp2_with (fail)
  refine (HWH.out _ HF.out).mono ?_; rintro e W6 ⟨rfl, hF6⟩; have HF6 := Aside0.mk hF6; clear hF6 z0 z1 m1 hx g0 g1 g2 g3 g4; have HF7 := Aside0.mk (HF.out.trans HF6.out (fun _ _ hf => hf)); clear HF HF6 HWH; go_wp2_with (fail)
  go_ret
  rw [HE.out]; exact ⟨rfl, HF7.out⟩
end Go.Proofs.Ytdngobjcdajogaa.Gram
namespace Go.Proofs.Ytdngobjcdajogaa.Fr
open Go.RowKit Go.Proofs.YtdngobjcdajogaaW.PrintWords Go.Proofs.YtdngobjcdajogaaW.PrintLast Go.Proofs.YtdngobjcdajogaaW.PrintMore
section
variable {P : Program} {ops : Array Oper} {Q : Exit → Act → World → Prop} {md : Region.Mode} {S : World → Prop} {ds : List Nat}
theorem tk (i : Nat) {oi : Oper} {v : Value} {fuel : Nat} {listed : Array Bool} {a a' : Act} {w : World}
 (h : wpAnyLast P md ops Q S ds fuel (listed.setIfInBounds i true) a' w)
 (hi : ops[i]? = some oi := by (first | (simp only [List.getElem?_toArray, List.getElem?_cons_zero]; rfl) | (simp only [List.getElem?_toArray, List.getElem?_cons_succ, List.getElem?_cons_zero]; rfl)))
 (hs : Region.noSelect ops = true := by kernel_rfl) (hf : Region.free md ops listed i = true := by kernel_rfl) (hr : (Region.ready md ops listed).contains i = true := by kernel_rfl)
 (hc : Region.closedB md ops listed = true := by kernel_rfl) (hl : Region.lastB md ops listed ds i = true := by kernel_rfl)
 (hy : YieldsIf P ops S oi v a := by (refine Or.inl ⟨by rfl, ?_⟩; intro w0 hSw; (try dsimp only at hSw); go_simp; try with_reducible rfl))
 (ha : a.put oi.dst v = a' := by ((try simp only [Act.put, List.setIfInBounds_toArray, List.set_cons_zero, List.set_cons_succ]); rfl))
 (hQ : ∀ c a w, Q (.panic c) (a.put oi.dst v) w → Q (.panic c) a w := by exact fun _ _ _ h => h) (hS : S w := by assumption) : wpAnyLast P md ops Q S ds (fuel + 1) listed a w := by
 subst ha; exact wpAnyLast_take hi hs hf hr hc hl hQ hy hS h
theorem un (i : Nat) {oi : Oper} {fuel : Nat} {listed : Array Bool} {a a' : Act} {w : World}
 (h : wpAnyLast P md ops Q S ds fuel (listed.setIfInBounds i true) a' w)
 (hi : ops[i]? = some oi := by (first | (simp only [List.getElem?_toArray, List.getElem?_cons_zero]; rfl) | (simp only [List.getElem?_toArray, List.getElem?_cons_succ, List.getElem?_cons_zero]; rfl)))
 (hs : Region.noSelect ops = true := by kernel_rfl) (hf : Region.free md ops listed i = true := by kernel_rfl) (hr : (Region.ready md ops listed).contains i = true := by kernel_rfl)
 (hc : Region.closedB md ops listed = true := by kernel_rfl) (hl : Region.lastB md ops listed ds i = true := by kernel_rfl)
 (hy : YieldsIf P ops S oi undef a := by exact Or.inr ⟨by rfl, rfl⟩)
 (ha : a.put oi.dst undef = a' := by ((try simp only [Act.put, List.setIfInBounds_toArray, List.set_cons_zero, List.set_cons_succ]); rfl))
 (hQ : ∀ c a w, Q (.panic c) (a.put oi.dst undef) w → Q (.panic c) a w := by exact fun _ _ _ h => h) (hS : S w := by assumption) : wpAnyLast P md ops Q S ds (fuel + 1) listed a w := by
 subst ha; exact wpAnyLast_take hi hs hf hr hc hl hQ hy hS h
theorem on (i : Nat) {o : Oper} {fuel : Nat} {listed : Array Bool} {a : Act} {w : World}
 (h : ∀ K' : Act → World → Prop, Shut (∀ a w, S w → (S w → wpAnyLast P md ops Q S ds fuel (listed.setIfInBounds i true) a w) → K' a w) → if Region.wanted o (yielded ops a.tmps) = true then Oper.wp P o a w K' Q else K' (a.put o.dst undef) w)
 (ho : ops[i]? = some o := by (first | (simp only [List.getElem?_toArray, List.getElem?_cons_zero]; rfl) | (simp only [List.getElem?_toArray, List.getElem?_cons_succ, List.getElem?_cons_zero]; rfl)))
 (hr : Region.ready md ops listed = [i] := by kernel_rfl) (hd : i ∉ ds := by decide) : wpAnyLast P md ops Q S ds (fuel + 1) listed a w :=
 wpAnyLast_ready hr (by simp) (AllReadyL.cons ho hd h AllReadyL.nil)
theorem onl (i : Nat) {o : Oper} {fuel : Nat} {listed : Array Bool} {a : Act} {w : World}
 (h : ∀ K' : Act → World → Prop, Shut (∀ a w, wpAnyLast P md ops Q S ds fuel (listed.setIfInBounds i true) a w → K' a w) → if Region.wanted o (yielded ops a.tmps) = true then Oper.wp P o a w K' Q else K' (a.put o.dst undef) w)
 (ho : ops[i]? = some o := by (first | (simp only [List.getElem?_toArray, List.getElem?_cons_zero]; rfl) | (simp only [List.getElem?_toArray, List.getElem?_cons_succ, List.getElem?_cons_zero]; rfl)))
 (hr : Region.ready md ops listed = [i] := by kernel_rfl) (hd : i ∈ ds := by decide) : wpAnyLast P md ops Q S ds (fuel + 1) listed a w :=
 wpAnyLast_ready hr (by simp) (AllReadyL.cons_last ho hd h AllReadyL.nil)
theorem on2 (i j : Nat) {o p : Oper} {fuel : Nat} {listed : Array Bool} {a : Act} {w : World}
 (h : ∀ K' : Act → World → Prop, Shut (∀ a w, S w → (S w → wpAnyLast P md ops Q S ds fuel (listed.setIfInBounds i true) a w) → K' a w) → if Region.wanted o (yielded ops a.tmps) = true then Oper.wp P o a w K' Q else K' (a.put o.dst undef) w)
 (k : ∀ K' : Act → World → Prop, Shut (∀ a w, S w → (S w → wpAnyLast P md ops Q S ds fuel (listed.setIfInBounds j true) a w) → K' a w) → if Region.wanted p (yielded ops a.tmps) = true then Oper.wp P p a w K' Q else K' (a.put p.dst undef) w)
 (ho : ops[i]? = some o := by (first | (simp only [List.getElem?_toArray, List.getElem?_cons_zero]; rfl) | (simp only [List.getElem?_toArray, List.getElem?_cons_succ, List.getElem?_cons_zero]; rfl)))
 (hp : ops[j]? = some p := by (first | (simp only [List.getElem?_toArray, List.getElem?_cons_zero]; rfl) | (simp only [List.getElem?_toArray, List.getElem?_cons_succ, List.getElem?_cons_zero]; rfl)))
 (hr : Region.ready md ops listed = [i, j] := by kernel_rfl) (hd : i ∉ ds := by decide) (he : j ∉ ds := by decide) : wpAnyLast P md ops Q S ds (fuel + 1) listed a w :=
 wpAnyLast_ready hr (by simp) (AllReadyL.cons ho hd h (AllReadyL.cons hp he k AllReadyL.nil))
theorem dn {listed : Array Bool} {a : Act} {w : World} {fuel : Nat} (h : Q .normal a w) (hr : Region.ready md ops listed = [] := by kernel_rfl) : wpAnyLast P md ops Q S ds fuel listed a w := wpAnyLast_done hr h fuel
end
end Go.Proofs.Ytdngobjcdajogaa.Fr
namespace Go.Proofs.Ytdngobjcdajogaa.Gram
open Go.RowKit Go.Proofs.YtdngobjcdajogaaW.PrintWords Go.Proofs.YtdngobjcdajogaaW.PrintLast Go.Proofs.YtdngobjcdajogaaW.PrintMore Go.Proofs.Ytdngobjcdajogaa.Fr Go.Proofs.Ytdngobjcdajogaa.PGramFirsts Go.Proofs.Ytdngobjcdajogaa.TextSet
theorem queue_cut {W : World} {B n c : Nat} {ok : Nat → Prop} {A : Option Addr} {l : List Int} (hq : kI.Q 3 W B ok (.slice A n c) l) (h : 1 ≤ l.length) :
 ∃ A' n' c', (∀ W, (Instr.slice 27 (.slice A n c) (some (.int .i64 1)) none none).run Try.prog W = .ok (.slice A' n' c') W) ∧ kI.Q 3 W B ok (.slice A' n' c') (l.drop 1) := by
 obtain ⟨h1, h2, _⟩ := Kd.Q_reads' hq; obtain ⟨i0, hi0, _, hsz, _⟩ := info_parts info3; exact ⟨_, _, _, cut_from (P := Try.prog) 27 3 .i64 Try.underlying27 hi0 1 hsz A n c 1 (by omega) (by omega), Kd.Q_drop (k := 1) hq h⟩
theorem queue_head {W : World} {B : Nat} {ok : Nat → Prop} {v : Value} {b : Int} {l : List Int} (hq : kI.Q 3 W B ok v (b :: l)) :
 ∃ g o c, v = .slice (some ⟨g, o, none⟩) (l.length + 1) c ∧ W.cell? ⟨g, o, none⟩ = some (.int .i64 b) := by
 obtain ⟨g, o, c, rfl, _⟩ := Kd.Q_form hq (by simp); have := (Kd.Q_cell 0 hq 0 (Int.le_refl _) (by simp)).1; exact ⟨g, o, c, by simp, by simpa [rdOf] using this⟩
theorem queue_one {W : World} {B : Nat} (b : Int) (hB : B ≤ W.heap.size) : kI.Q 3 (W.alloc (.cells #[.int .i64 b] 3)) B (fun _ => True) (.slice (some ⟨W.heap.size, 0, none⟩) 1 1) [b] :=
 Kd.Q_of_R (Kd.R_of_own (own_lit_of W B 3 [b] hB (by simp)) (fun _ _ => trivial))
set_option maxHeartbeats 4000000 in
set_option maxRecDepth 100000 in
theorem reached_calls (w : World) (G : Gr) (A0 A1 A2 A3 : Option Addr) (c0 c1 c2 c3 : Nat) (h : GAt w G A0 A1 A2 A3 c0 c1 c2 c3) (hc : CheckOk G) (may : Nat → Bool)
 (hmay : ∀ (i : Nat) (W : World) (B1 B6 : Option Addr) (d1 d6 : Nat), i < G.prods.length → Fr (fun _ => False) w W → k55.C w B6 (rd_T57 G.prods (i : Int)).f3.f3.length (rd_T57 G.prods (i : Int)).f3.f3 → kI.C w B1 (rd_T57 G.prods (i : Int)).f1.length (rd_T57 G.prods (i : Int)).f1 → (rd_T57 G.prods (i : Int)).f1.length ≤ d1 →
  Calls Try.prog 40 #[.agg #[.int .i64 (rd_T57 G.prods (i : Int)).f0, .slice B1 (rd_T57 G.prods (i : Int)).f1.length d1, .int .i64 (rd_T57 G.prods (i : Int)).f2, .int .i64 (rd_T57 G.prods (i : Int)).f3.f0, .int .i64 (rd_T57 G.prods (i : Int)).f3.f1, .string (rd_T57 G.prods (i : Int)).f3.f2, .slice B6 (rd_T57 G.prods (i : Int)).f3.f3.length d6]] W fun e w' => e = .returned (.bool (may i)) ∧ Fr (fun _ => False) W w') :
 Calls Try.prog 34 #[.agg #[.slice A0 G.kinds.length c0, .slice A1 G.precs.length c1, .slice A2 G.rules.length c2, .slice A3 G.prods.length c3, .int .i64 G.start], .func (.func 40) #[] #[]] w fun e w' =>
  ∃ v, e = .returned v ∧ kB.R 4 w' (w.heap.size + 1) (fun _ => True) v (reachL G may) ∧ Fr (fun _ => False) w w' := by
 have hu := Try.underlying26; have hu2 := Try.underlying57; have hm3 := Kd.C_max h.prods; have hR1 := (base_true hc.base).2.1; have hR2 := (base_true hc.base).2.2.1; have hs0 := (base_true hc.base).2.2.2.1; have hs1 := (base_true hc.base).2.2.2.2.1; have hQ2 := (base_true hc.base).2.2.2.2.2; have hK2 := hc.kinds.max; have HG := Aside0.mk h; have HC := Aside0.mk hc; have HM := Aside0.mk hmay; have HB0 := Aside0.mk (RcSt.begin may hs0 hs1); have HW := Aside0.mk (show ChkW w (w.alloc (.cells #[.slice A0 G.kinds.length c0, .slice A1 G.precs.length c1, .slice A2 G.rules.length c2, .slice A3 G.prods.length c3, .int .i64 G.start] 26)) G A0 A1 A2 A3 c0 c1 c2 c3 from ⟨blk_new w _, (Fr.refl _ w).alloc _⟩); have hws : (w.alloc (.cells #[.slice A0 G.kinds.length c0, .slice A1 G.precs.length c1, .slice A2 G.rules.length c2, .slice A3 G.prods.length c3, .int .i64 G.start] 26)).heap.size = w.heap.size + 1 := by simp only [World.size_alloc]
 clear h hc hmay; go_enter Try.func34, Try.ntmps34
 go_upto_region 1 with fail
 generalize w.alloc (.cells #[.slice A0 G.kinds.length c0, .slice A1 G.precs.length c1, .slice A2 G.rules.length c2, .slice A3 G.prods.length c3, .int .i64 G.start] 26) = W0 at HW hws ⊢; obtain ⟨e0, e1, e2, e3, e4⟩ := HW.out.cells; go_upto_region 2 with (at_make; refine Kd.R_make kB (w0 := W0) W0.heap.size 4 rfl (N := 15) rfl 36 _ _ rfl (G.rules.length : Int) rfl rfl Try.underlying36 (.bool false) 1 info4 rfl (by decide) (by omega) false (ok := fun _ => True) (okp := fun _ => True) rfl (fun _ hk => hk) trivial (by omega) (by omega) (Below.refl _ _) (Nat.le_refl _) ?_; intro v1 W1 h1 hB1 hg1 hb1; have HX := Aside0.mk (show CW w W1 G A0 A1 A2 A3 c0 c1 c2 c3 v1 (List.replicate G.rules.length false) from ⟨HW.out.go (Fr.of_below hB1), by simpa [hws] using h1⟩); clear h1 hB1 hg1)
 obtain ⟨gb, cap, rfl⟩ := marks_form HX.out.row (by simp; exact hR1); simp only [List.length_replicate] at HX hb1 ⊢; clear HW e0 e1 e2 e3 e4; obtain ⟨e0, e1, e2, e3, e4⟩ := HX.out.chk.cells; obtain ⟨hx0, hfz⟩ := HX.out.at (by simp) hs0 hs1; have HX1 := Aside0.mk (HX.out.mark (by simp) G.start).1; obtain ⟨f0, f1, f2, f3, f4⟩ := HX1.out.chk.cells; go_upto_region 3 with fail
 clear e0 e1 e2 e3 e4 hx0 hfz HX; have hw1 : w.heap.size + 1 ≤ (W1.setCell ⟨gb, G.start.toNat, none⟩ (.bool true)).heap.size := blk_lt HX1.out.chk.box; generalize W1.setCell ⟨gb, G.start.toNat, none⟩ (.bool true) = W2 at HX1 hw1 f0 f1 f2 f3 f4 ⊢; have HQ1 := Aside0.mk (queue_one G.start hw1); have HX2 := Aside0.mk (HX1.out.go ((Fr.refl (fun _ => False) W2).alloc (.cells #[.int .i64 G.start] 3))); have HS2 := Aside0.mk HB0.out.1; have hcnt := HB0.out.2; clear HX1; go_wp2_with (fail)
 go_loopg [6] G.rules.length (fun k a W => ∃ (marks : List Bool) (l : List Int), marks.count false + l.length ≤ k ∧ k ≤ G.rules.length ∧ Aside0 (CW w W G A0 A1 A2 A3 c0 c1 c2 c3 (.slice (some ⟨gb, 0, none⟩) G.rules.length cap) marks) ∧ Aside0 (kI.Q 3 W (w.heap.size + 1) (fun _ => True) a l) ∧ Aside0 (RcSt G may marks l))
 case atStart => exact ⟨_, _, hcnt, Nat.le_refl _, HX2, HQ1, HS2⟩
 case round =>
  clear HX2 HQ1 HS2 HB0 hcnt f0 f1 f2 f3 f4; obtain ⟨marks, l, hk, hkR, HX, HQ, HS⟩ := hrel; cases l with
  | nil =>
   have HE := Aside0.mk (HS.out.done hs0); have HRW := Aside0.mk (show kB.R 4 wr (w.heap.size + 1) (fun _ => True) (.slice (some ⟨gb, 0, none⟩) G.rules.length cap) (reachL G may) by have := HX.out.row; rwa [HE.out] at this); obtain ⟨A, c, rfl, _⟩ := Kd.Q_slice HQ.out; simp only [List.length_nil]; go_wp2_with (fail)
   go_ret
   exact ⟨_, rfl, HRW.out, HX.out.chk.fr⟩
  | cons b tl =>
   obtain ⟨g, o, c, rfl, hh⟩ := queue_head HQ.out; obtain ⟨e0, e1, e2, e3, e4⟩ := HX.out.chk.cells; have hpos : (0 : Int) < ((tl.length + 1 : Nat) : Int) := by omega
   have hkk : marks.count false + (b :: tl).length ≤ gk := hk; go_wp2_with (fail)
   go_loopw [31, 6] (fun a q W => ∃ (i : Nat) (marks : List Bool) (tl : List Int), a = .int .i64 i ∧ i ≤ G.prods.length ∧ marks.count false + (b :: tl).length ≤ gk ∧ Aside0 (CW w W G A0 A1 A2 A3 c0 c1 c2 c3 (.slice (some ⟨gb, 0, none⟩) G.rules.length cap) marks) ∧ Aside0 (kI.Q 3 W (w.heap.size + 1) (fun _ => True) q (b :: tl)) ∧ Aside0 (RcSt G may marks (b :: tl)) ∧ Aside0 (∀ j, j < i → Did G may marks b j)) (fun a _ _ => G.prods.length - (intOf a).toNat)
   case atStart => exact ⟨0, marks, tl, rfl, Nat.zero_le _, hkk, HX, HQ, HS, ⟨fun j hj => absurd hj (by omega)⟩⟩
   case round =>
    clear HX HQ HS hk hkk hh e0 e1 e2 e3 e4 hpos; obtain ⟨i, marks, tl, rfl, hi, hk, HX, HQ, HS, HD⟩ := hrel; by_cases hlt : i < G.prods.length
    · have HLT := Aside0.mk hlt
      obtain ⟨ad, B1, d1, B6, d6, rfl, x0, x1, x2, x3, x4, x5, x6, hl1, hC1, hl6, hC6⟩ := at_T57 HG.out.prods (i : Int) (by omega) (by omega); simp only [Int.toNat_natCast] at x0 x1 x2 x3 x4 x5 x6; have y0 := HX.out.chk.fr.cell x0 id; have y1 := HX.out.chk.fr.cell x1 id; have y2 := HX.out.chk.fr.cell x2 id; have y3 := HX.out.chk.fr.cell x3 id; have y4 := HX.out.chk.fr.cell x4 id; have y5 := HX.out.chk.fr.cell x5 id; have y6 := HX.out.chk.fr.cell x6 id; have HC1 := Aside0.mk hC1; have HMI := Aside0.mk (fun W hF => HM.out i W B1 B6 d1 d6 hlt hF hC6 hC1 hl1); have HPI := Aside0.mk (HC.out.prodsOk i hlt); clear x0 x1 x2 x3 x4 x5 x6 hC1 hC6 hl6 hl1; go_upto_region 9 with fail
      have HXA := Aside0.mk (HX.out.go ((Fr.refl (fun _ => False) wr).alloc (.cells #[.int .i64 (rd_T57 G.prods (i : Int)).f0, .slice B1 (rd_T57 G.prods (i : Int)).f1.length d1, .int .i64 (rd_T57 G.prods (i : Int)).f2, .int .i64 (rd_T57 G.prods (i : Int)).f3.f0, .int .i64 (rd_T57 G.prods (i : Int)).f3.f1, .string (rd_T57 G.prods (i : Int)).f3.f2, .slice B6 (rd_T57 G.prods (i : Int)).f3.f3.length d6] 57))); have HQA := Aside0.mk (Kd.Q_alloc HQ.out (.cells #[.int .i64 (rd_T57 G.prods (i : Int)).f0, .slice B1 (rd_T57 G.prods (i : Int)).f1.length d1, .int .i64 (rd_T57 G.prods (i : Int)).f2, .int .i64 (rd_T57 G.prods (i : Int)).f3.f0, .int .i64 (rd_T57 G.prods (i : Int)).f3.f1, .string (rd_T57 G.prods (i : Int)).f3.f2, .slice B6 (rd_T57 G.prods (i : Int)).f3.f3.length d6] 57)); have HPB := Aside0.mk (blk_new wr (.cells #[.int .i64 (rd_T57 G.prods (i : Int)).f0, .slice B1 (rd_T57 G.prods (i : Int)).f1.length d1, .int .i64 (rd_T57 G.prods (i : Int)).f2, .int .i64 (rd_T57 G.prods (i : Int)).f3.f0, .int .i64 (rd_T57 G.prods (i : Int)).f3.f1, .string (rd_T57 G.prods (i : Int)).f3.f2, .slice B6 (rd_T57 G.prods (i : Int)).f3.f3.length d6] 57)); generalize wr.alloc (.cells #[.int .i64 (rd_T57 G.prods (i : Int)).f0, .slice B1 (rd_T57 G.prods (i : Int)).f1.length d1, .int .i64 (rd_T57 G.prods (i : Int)).f2, .int .i64 (rd_T57 G.prods (i : Int)).f3.f0, .int .i64 (rd_T57 G.prods (i : Int)).f3.f1, .string (rd_T57 G.prods (i : Int)).f3.f2, .slice B6 (rd_T57 G.prods (i : Int)).f3.f3.length d6] 57) = W5 at HXA HPB HQA ⊢; generalize wr.heap.size = q at HPB ⊢; clear y0 y1 y2 y3 y4 y5 y6 HX HQ; have hro := HPI.out.2.2.2; have hrl := HPI.out.2.2.1; have hb0 := (HS.out.que b List.mem_cons_self).1; have hlf0 := HPI.out.1; have HSN := Aside0.mk (HS.out.snd b.toNat (by rw [Int.toNat_of_nonneg hb0]; exact (HS.out.que b List.mem_cons_self).2.2)); have HRC := Aside0.mk (show (rd_T57 G.prods (i : Int)).f0 = b → may i = true → ∀ x, x ∈ (rd_T57 G.prods (i : Int)).f1 → (G.kinds.length : Int) ≤ x → Rch G may (x - G.kinds.length).toNat from fun e hm x hx hk => Rch.next (a := b.toNat) (i := i) HSN.out HLT.out (by rw [Int.toNat_of_nonneg hb0]; exact e) hm hx hk); have HDN := Aside0.mk (show ∀ marks : List Bool, ((rd_T57 G.prods (i : Int)).f0 = b → may i = true → ∀ x, x ∈ (rd_T57 G.prods (i : Int)).f1 → Marked G marks x) → Did G may marks b i from fun _ h => h); rw [show rd_T57 G.prods i = rd_T57 G.prods (i : Int) from rfl] at hro hrl hlf0; have HRO := Aside0.mk hro; clear hro HSN hlf0; have HPI : Aside0 (0 ≤ (rd_T57 G.prods (i : Int)).f0 ∧ (rd_T57 G.prods (i : Int)).f0 < G.rules.length) := ⟨HPI.out.1, HPI.out.2.1⟩; generalize rd_T57 G.prods (i : Int) = pr at HPB HMI HPI HRC HDN HRO hrl HC1 ⊢; obtain ⟨g, o, c, rfl, hh⟩ := queue_head HQA.out; have z0 := (blk_cell HPB.out 0).trans (show _ = some (Value.int .i64 pr.f0) from rfl); have z1 := (blk_cell HPB.out 1).trans (show _ = some (Value.slice B1 pr.f1.length d1) from rfl); have z2 := (blk_cell HPB.out 2).trans (show _ = some (Value.int .i64 pr.f2) from rfl); have z3 := (blk_cell HPB.out 3).trans (show _ = some (Value.int .i64 pr.f3.f0) from rfl); have z4 := (blk_cell HPB.out 4).trans (show _ = some (Value.int .i64 pr.f3.f1) from rfl); have z5 := (blk_cell HPB.out 5).trans (show _ = some (Value.string pr.f3.f2) from rfl); have z6 := (blk_cell HPB.out 6).trans (show _ = some (Value.slice B6 pr.f3.f3.length d6) from rfl); have hn9 : ∀ e : Bool, may i = e → may i = e := fun _ h => h
      by_cases hl : pr.f0 = b
      · rw [hl] at z0 HMI HRC HDN
        cases hmi : may i with
        | false =>
         have HDI := Aside0.mk (show Did G may marks b i from HDN.out marks (fun _ h => by rw [hmi] at h; cases h)); rw [hmi] at HMI; go_wp2_with (fail)
         go_region_held3 (fun w' => w'.cell? ⟨q, 0, none⟩ = some (.int .i64 b) ∧ w'.cell? ⟨q, 1, none⟩ = some (.slice B1 pr.f1.length d1) ∧ w'.cell? ⟨q, 2, none⟩ = some (.int .i64 pr.f2) ∧ w'.cell? ⟨q, 3, none⟩ = some (.int .i64 pr.f3.f0) ∧ w'.cell? ⟨q, 4, none⟩ = some (.int .i64 pr.f3.f1) ∧ w'.cell? ⟨q, 5, none⟩ = some (.string pr.f3.f2) ∧ w'.cell? ⟨q, 6, none⟩ = some (.slice B6 pr.f3.f3.length d6) ∧ w'.cell? ⟨g, o, none⟩ = some (.int .i64 b)) (go_keep)
          (first | (go_at_call 40; refine (HMI.out _ (HXA.out.chk.fr.trans ((Fr.refl (fun _ => False) W5).drew) (fun _ _ hf => hf))).mono ?_; rintro e W6 ⟨rfl, hF6⟩; have HF6 := Aside0.mk (((Fr.refl (fun _ => False) W5).drew).trans hF6 (fun _ _ hf => hf)); have HPB6 := Aside0.mk (HF6.out.blk HPB.out id); have t0 := HF6.out.cell z0 id; have t1 := HF6.out.cell z1 id; have t2 := HF6.out.cell z2 id; have t3 := HF6.out.cell z3 id; have t4 := HF6.out.cell z4 id; have t5 := HF6.out.cell z5 id; have t6 := HF6.out.cell z6 id; have th := HF6.out.cell hh id; clear hF6))
         have HX6 := Aside0.mk (HXA.out.go HF6.out); have HQ6 := Aside0.mk (Kd.Q_below HQA.out HF6.out.to_below); have HD6 := Aside0.mk (show ∀ j, j < i + 1 → Did G may marks b j from fun j hj => by
          by_cases ej : j = i
          · rw [ej]; exact HDI.out
          · exact HD.out j (by omega))
         go_wp2_with (fail)
         exact ⟨⟨i + 1, marks, tl, by go_num, HLT.out, hk, HX6, HQ6, HS, HD6⟩, by have := HLT.out; simp [intOf]; omega⟩
        | true =>
         rw [hmi] at HMI HRC; have HDN2 := Aside0.mk (show ∀ marks : List Bool, (∀ x, x ∈ pr.f1 → Marked G marks x) → Did G may marks b i from fun m h => HDN.out m (fun _ _ => h)); have HRC2 := Aside0.mk (show ∀ x, x ∈ pr.f1 → (G.kinds.length : Int) ≤ x → Rch G may (x - G.kinds.length).toNat from HRC.out rfl rfl); clear HDN HRC hn9; go_wp2_with (fail)
         go_region_held3 (fun w' => w'.cell? ⟨q, 0, none⟩ = some (.int .i64 b) ∧ w'.cell? ⟨q, 1, none⟩ = some (.slice B1 pr.f1.length d1) ∧ w'.cell? ⟨q, 2, none⟩ = some (.int .i64 pr.f2) ∧ w'.cell? ⟨q, 3, none⟩ = some (.int .i64 pr.f3.f0) ∧ w'.cell? ⟨q, 4, none⟩ = some (.int .i64 pr.f3.f1) ∧ w'.cell? ⟨q, 5, none⟩ = some (.string pr.f3.f2) ∧ w'.cell? ⟨q, 6, none⟩ = some (.slice B6 pr.f3.f3.length d6) ∧ w'.cell? ⟨g, o, none⟩ = some (.int .i64 b)) (go_keep)
          (first | (go_at_call 40; refine (HMI.out _ (HXA.out.chk.fr.trans ((Fr.refl (fun _ => False) W5).drew) (fun _ _ hf => hf))).mono ?_; rintro e W6 ⟨rfl, hF6⟩; have HF6 := Aside0.mk (((Fr.refl (fun _ => False) W5).drew).trans hF6 (fun _ _ hf => hf)); have HPB6 := Aside0.mk (HF6.out.blk HPB.out id); have t0 := HF6.out.cell z0 id; have t1 := HF6.out.cell z1 id; have t2 := HF6.out.cell z2 id; have t3 := HF6.out.cell z3 id; have t4 := HF6.out.cell z4 id; have t5 := HF6.out.cell z5 id; have t6 := HF6.out.cell z6 id; have th := HF6.out.cell hh id; clear hF6))
         have HX6 := Aside0.mk (HXA.out.go HF6.out); have HQ6 := Aside0.mk (Kd.Q_below HQA.out HF6.out.to_below); clear HXA HQA HPB HMI HF6 z0 z1 z2 z3 z4 z5 z6 hh hmi; go_wp2_with (fail)
         clear HPB6 t0 t1 t2 t3 t4 t5 t6 th; go_loopw [50, 6] (fun a q W => ∃ (t : Nat) (marks : List Bool) (tl : List Int), a = .int .i64 t ∧ t ≤ pr.f1.length ∧ marks.count false + (b :: tl).length ≤ gk ∧ Aside0 (CW w W G A0 A1 A2 (some ad) c0 c1 c2 c3 (.slice (some ⟨gb, 0, none⟩) G.rules.length cap) marks) ∧ Aside0 (kI.Q 3 W (w.heap.size + 1) (fun _ => True) q (b :: tl)) ∧ Aside0 (RcSt G may marks (b :: tl)) ∧ Aside0 (∀ j, j < i → Did G may marks b j) ∧ Aside0 (∀ x, x ∈ pr.f1.take t → Marked G marks x)) (fun a _ _ => pr.f1.length - (intOf a).toNat)
         case atStart => exact ⟨0, marks, tl, rfl, Nat.zero_le _, hk, HX6, HQ6, HS, HD, ⟨fun x hx => by simp at hx⟩⟩
         case round =>
          clear HX6 HQ6 HS HD hk; obtain ⟨t, marks, tl, rfl, ht, hk, HX, HQ, HS, HD, HT⟩ := hrel; by_cases htl : t < pr.f1.length
          · have HTL := Aside0.mk htl
            obtain ⟨ax, rfl, hx⟩ := Kd.at_int (HX.out.chk.fr.C (S := fun _ => False) (0 : Int) HC1.out (fun _ _ _ => id)) (t : Int) (by omega) (by omega); simp only [Int.toNat_natCast] at hx; obtain ⟨hx1, hx2⟩ := HRO.out t htl; have HMX := Aside0.mk (show rd pr.f1 (t : Int) ∈ pr.f1 from rd_mem htl); have HTK := Aside0.mk (show ∀ y, y ∈ pr.f1.take (t + 1) → y ∈ pr.f1.take t ∨ y = rd pr.f1 (t : Int) from fun y hy => by
             rw [List.take_add_one, List.getElem?_eq_getElem HTL.out] at hy; simp only [Option.toList_some, List.mem_append, List.mem_singleton] at hy; rcases hy with hy | hy
             · exact .inl hy
             · exact .inr (by rw [hy]; simp [rd, List.getD_eq_getElem?_getD, HTL.out]))
            generalize rd pr.f1 (t : Int) = x at hx hx1 hx2 HMX HTK; obtain ⟨e0, e1, e2, e3, e4⟩ := HX.out.chk.cells; go_wp2_with (fail)
            refine (isRule_calls _ G A0 A1 A2 (some ad) c0 c1 c2 c3 (HG.out.go HX.out.chk.fr) hK2 x hx1 (by omega)).mono ?_; rintro e W7 ⟨rfl, hF7⟩; have HX7 := Aside0.mk (HX.out.go hF7); have HQ7 := Aside0.mk (Kd.Q_below HQ.out hF7.to_below); clear HX HQ hF7 e0 e1 e2 e3 e4 hx; by_cases hxk : x < G.kinds.length
            · rw [if_pos hxk]
              have HT2 := Aside0.mk (show ∀ y, y ∈ pr.f1.take (t + 1) → Marked G marks y from fun y hy => by
               rcases HTK.out y hy with hy | rfl
               · exact HT.out y hy
               · exact fun h => absurd hxk (by omega))
              go_wp2_with (fail)
              exact ⟨⟨t + 1, marks, tl, by go_num, HTL.out, hk, HX7, HQ7, HS, HD, HT2⟩, by have := HTL.out; simp [intOf]; omega⟩
            · rw [if_neg hxk]
              have HRX := Aside0.mk (HRC2.out x HMX.out (by omega)); have ha0 : 0 ≤ x - G.kinds.length := by omega
              have ha1 : x - G.kinds.length < G.rules.length := by omega
              have HEQ := Aside0.mk (show (x - G.kinds.length : Int) = x - G.kinds.length from rfl); have HMK := Aside0.mk (show ∀ marks : List Bool, rdOf false marks (x - G.kinds.length) = true → Marked G marks x from fun _ h _ => h); clear HEQ; generalize x - (G.kinds.length : Int) = a at ha0 ha1 HRX HMK ⊢; obtain ⟨hm, hfz⟩ := HX7.out.at HS.out.len ha0 ha1; cases hma : rdOf false marks a with
              | true =>
               rw [hma] at hm; have HT2 := Aside0.mk (show ∀ y, y ∈ pr.f1.take (t + 1) → Marked G marks y from fun y hy => by
                rcases HTK.out y hy with hy | rfl
                · exact HT.out y hy
                · exact HMK.out _ hma)
               go_wp2_with (fail)
               exact ⟨⟨t + 1, marks, tl, by go_num, HTL.out, hk, HX7, HQ7, HS, HD, HT2⟩, by have := HTL.out; simp [intOf]; omega⟩
              | false =>
               rw [hma] at hm; obtain ⟨hS8, hc8⟩ := HS.out.push ha0 ha1 HRX.out hma; have HX8 := Aside0.mk (HX7.out.mark HS.out.len a).1; have HQ8 := Aside0.mk (queue_mark HX7.out HQ7.out a.toNat (.bool true)); have HS8 := Aside0.mk (show RcSt G may (marks.set a.toNat true) (b :: (tl ++ [a])) from hS8); have hk8 : (marks.set a.toNat true).count false + (b :: (tl ++ [a])).length ≤ gk := by
                have : (b :: (tl ++ [a])) = (b :: tl) ++ [a] := rfl; rw [this, hc8]; exact hk
               have HD8 := Aside0.mk (show ∀ j, j < i → Did G may (marks.set a.toNat true) b j from fun j hj => (HD.out j hj).set); have HT8 := Aside0.mk (show ∀ y, y ∈ pr.f1.take (t + 1) → Marked G (marks.set a.toNat true) y from fun y hy => by
                rcases HTK.out y hy with hy | rfl
                · exact fun h => marked_set (HT.out y hy h)
                · refine HMK.out _ ?_
                  have := rdOf_set (l := marks) (i := a.toNat) (by rw [HS.out.len]; omega) a.toNat; rwa [if_pos rfl, Int.toNat_of_nonneg ha0] at this)
               have HLEN := Aside0.mk (show (b :: tl).length ≤ 2048 by omega); clear hS8 hc8 HS HD HT HMK HTK hk HRX hma; go_upto_region 16 with fail
               clear hm hfz HX7 HQ7; generalize W7.setCell ⟨gb, a.toNat, none⟩ (.bool true) = W8 at HX8 HQ8 ⊢; go_wp2_with (first | ((with_reducible refine gate_builtin (b := .append) (xs := #[.tmp 69, .tmp 71]) rfl ?_); at_builtin; refine Kd.Q_append kI (w0 := W8) (w.heap.size + 1) rfl (.tmp 69) (.tmp 71) 27 3 (.int .i64 0) 8 rfl Try.underlying27 info3 rfl (by decide) (by omega) _ (b :: tl) a [.int .i64 a] (fun _ => True) (fun _ => False) rfl rfl ?aP (fun _ hk => hk.elim) ?aF HQ8.out ?aB ?aS ?aL ?_; (case aP => exact rfl); (case aF => exact (fun _ _ => trivial)); (case aB => exact Below.refl _ _); (case aS => exact (blk_lt HX8.out.chk.box)); (case aL => have := HLEN.out; omega); intro v9 W9 hq9 hb9 hg9 hat9; have HX9 := Aside0.mk (HX8.out.over HQ8.out hg9); have HQ9 := Aside0.mk (show kI.Q 3 W9 (w.heap.size + 1) (fun _ => True) v9 (b :: (tl ++ [a])) from hq9); clear hq9 hb9 hg9 hat9))
               exact ⟨⟨t + 1, _, _, by go_num, HTL.out, hk8, HX9, HQ9, HS8, HD8, HT8⟩, by have := HTL.out; simp [intOf]; omega⟩
          · obtain rfl : t = pr.f1.length := by omega
            have HD6 := Aside0.mk (show ∀ j, j < i + 1 → Did G may marks b j from fun j hj => by
             by_cases ej : j = i
             · rw [ej]; exact HDN2.out marks (fun x hx => HT.out x (by rw [List.take_length]; exact hx))
             · exact HD.out j (by omega))
            go_wp2_with (fail)
            exact ⟨⟨i + 1, marks, tl, by go_num, HLT.out, hk, HX, HQ, HS, HD6⟩, by have := HLT.out; simp [intOf]; omega⟩
      · have HDI := Aside0.mk (show Did G may marks b i from HDN.out marks (fun h => absurd h hl))
        go_wp2_with (fail)
        refine wp_region_last_drew (S := fun w' => w'.cell? ⟨q, 0, none⟩ = some (.int .i64 pr.f0) ∧ w'.cell? ⟨g, o, none⟩ = some (.int .i64 b)) (ds := []) (by kernel_rfl) ⟨by simp only [World.cell?_drew]; exact z0, by simp only [World.cell?_drew]; exact hh⟩ (fun hHeld => ?_); refine tk 0 ?_; refine tk 1 ?_; refine tk 2 ?_; refine tk 3 ?_; refine tk 4 ?_; refine tk (v := .bool true) 5 ?_; refine tk 6 ?_; refine un 7 ?_; refine un 8 ?_; refine on 9 (fun K hK => ?_); go_simp
        refine hK.out _ _ (by assumption) (fun hHeld => ?_); clear hK K; try simp only [Act.put, List.setIfInBounds_toArray, List.set_cons_zero, List.set_cons_succ]
        refine un 10 ?_; refine tk 11 ?_; refine dn ?_; have HX6 := Aside0.mk (HXA.out.go (Fr.refl (fun _ => False) W5).drew); have HQ6 := Aside0.mk (Kd.Q_drew HQA.out); have HD6 := Aside0.mk (show ∀ j, j < i + 1 → Did G may marks b j from fun j hj => by
         by_cases ej : j = i
         · rw [ej]; exact HDI.out
         · exact HD.out j (by omega))
        go_wp2_with (fail)
        exact ⟨⟨i + 1, marks, tl, by go_num, HLT.out, hk, HX6, HQ6, HS, HD6⟩, by have := HLT.out; simp [intOf]; omega⟩
    · obtain rfl : i = G.prods.length := by omega
      obtain ⟨A, c, rfl, _⟩ := Kd.Q_slice HQ.out; obtain ⟨A', n', c', hcut, hQ'⟩ := queue_cut HQ.out (by simp); have HQ' := Aside0.mk (show kI.Q 3 wr (w.heap.size + 1) (fun _ => True) (.slice A' n' c') tl from hQ'); have HS' := Aside0.mk (HS.out.pop HD.out); clear hQ'; simp only [List.length_cons] at hk hcut ⊢; go_wp2_with (fail)
      go_roundg (gk - 1)
      case measure => omega
      case rel => exact ⟨marks, tl, by omega, by omega, HX, HQ', HS'⟩
end Go.Proofs.Ytdngobjcdajogaa.Gram
