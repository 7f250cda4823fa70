/-
The marked numbers: gram.list, gram.lists.
-/
import Derived.Test.YtdngobjcdajogaaQE
import Derived.Test.YtdngobjcdajogaaPB
import Derived.Test.YtdngobjcdajogaaQF
namespace Go.Proofs.Ytdngobjcdajogaa.Gram
open Go.RowKit Go.Proofs.YtdngobjcdajogaaW.PrintWords Go.Proofs.YtdngobjcdajogaaW.PrintLast Go.Proofs.YtdngobjcdajogaaW.PrintMore Go.Proofs.Ytdngobjcdajogaa.Fr Go.Proofs.Ytdngobjcdajogaa.PGramFirsts Go.Proofs.Ytdngobjcdajogaa.TextSet

/-- The marked numbers, from i on. -/
def listI : Nat → List Bool → List Int
  | _, [] => []
  | i, b :: l => if b then (i : Int) :: listI (i + 1) l else listI (i + 1) l
theorem mem_listI {x : Int} : ∀ {l : List Bool} {i : Nat}, x ∈ listI i l ↔ ∃ j : Nat, x = ((i + j : Nat) : Int) ∧ l[j]? = some true
  | [], i => by simp [listI]
  | b :: l, i => by
    have ih := @mem_listI x l (i + 1)
    constructor
    · intro h
      cases b with
      | true =>
        simp only [listI, if_true, List.mem_cons] at h
        rcases h with rfl | h
        · exact ⟨0, rfl, rfl⟩
        · obtain ⟨j, rfl, hj⟩ := ih.1 h
          exact ⟨j + 1, by omega, by simpa using hj⟩
      | false =>
        simp only [listI, Bool.false_eq_true, if_false] at h
        obtain ⟨j, rfl, hj⟩ := ih.1 h
        exact ⟨j + 1, by omega, by simpa using hj⟩
    · rintro ⟨j, rfl, hj⟩
      cases j with
      | zero =>
        simp only [List.getElem?_cons_zero, Option.some.injEq] at hj
        subst hj
        simp [listI]
      | succ j =>
        have : ((i + (j + 1) : Nat) : Int) ∈ listI (i + 1) l := ih.2 ⟨j, by omega, by simpa using hj⟩ |> fun h => by
          have e : ((i + 1 + j : Nat) : Int) = ((i + (j + 1) : Nat) : Int) := by omega
          first | exact h | (rw [← e]; exact h)
        simp only [listI]
        split
        · exact List.mem_cons_of_mem _ this
        · exact this
theorem listI_len : ∀ (l : List Bool) (i : Nat), (listI i l).length ≤ l.length
  | [], _ => Nat.le_refl _
  | b :: l, i => by
    have := listI_len l (i + 1)
    simp only [listI]
    split <;> simp only [List.length_cons] <;> omega
theorem list_l (l : List Bool) (hl : l.length ≤ 4611686018427387904) : ∀ (n i : Nat) (x : List Int), i + n = l.length → x.length + n ≤ 17592186044416 → gram_list.l0 (n + 1) x l (l.length : Int) (i : Int) = some (x ++ listI i (l.drop i))
  | 0, i, x, h, _ => by
    obtain rfl : i = l.length := by omega
    simp [gram_list.l0, listI]
  | n + 1, i, x, h, hx => by
    have hi : i < l.length := by omega
    have e : l.drop i = rdOf false l (i : Int) :: l.drop (i + 1) := by
      rw [List.drop_eq_getElem_cons hi]
      simp [rdOf, List.getD_eq_getElem?_getD, hi]
    have hw : wrap64 ((i : Int) + 1) = ((i + 1 : Nat) : Int) := by simp only [wrap64]; omega
    rw [gram_list.l0, if_pos (by omega), if_pos (by omega), if_pos (by omega), e, hw]
    have ih := fun x hx => list_l l hl n (i + 1) x (by omega) hx
    cases hb : rdOf false l (i : Int) with
    | true =>
      rw [if_pos rfl, if_pos (by omega), ih _ (by simp only [List.length_append, List.length_cons, List.length_nil]; omega)]
      simp [listI]
    | false =>
      rw [if_neg (by decide), ih _ (by omega)]
      simp [listI]
theorem list_some (l : List Bool) (hl : l.length ≤ 1000000) : gram_list.f (l.length + 1) l = some (listI 0 l) := by
  have := list_l l (by omega) l.length 0 [] (by omega) (by simp only [List.length_nil]; omega)
  simpa [gram_list.f] using this
theorem list_mono {l : List Bool} {r : List Int} {k m : Nat} (h : gram_list.f k l = some r) (hm : k ≤ m) : gram_list.f m l = some r := by
  induction hm with
  | refl => exact h
  | step _ ih => exact gram_list.mono _ _ _ ih
theorem lists_l (s : List (List Bool)) (K : Nat) (hK : ∀ m, m ∈ s → m.length = K) (hK2 : K ≤ 1000000) (hs : s.length ≤ 1000000) : ∀ (n i : Nat) (x : List (List Int)), i + n = s.length → x.length + n ≤ 1000000 → gram_lists.l0 (n + K + 2) x s (s.length : Int) (i : Int) = some (x ++ (s.drop i).map (listI 0))
  | 0, i, x, h, _ => by
    obtain rfl : i = s.length := by omega
    rw [show 0 + K + 2 = (K + 1) + 1 by omega]
    simp [gram_lists.l0]
  | n + 1, i, x, h, hx => by
    have hi : i < s.length := by omega
    have e : s.drop i = rd_L7 s (i : Int) :: s.drop (i + 1) := by
      rw [List.drop_eq_getElem_cons hi]
      simp [rd_L7, List.getD_eq_getElem?_getD, hi]
    have hm : rd_L7 s (i : Int) ∈ s := by
      simp [rd_L7, List.getD_eq_getElem?_getD, hi]
    have hw : wrap64 ((i : Int) + 1) = ((i + 1 : Nat) : Int) := by simp only [wrap64]; omega
    rw [show n + 1 + K + 2 = (n + K + 2) + 1 by omega, gram_lists.l0, if_pos (by omega), if_pos (by omega), if_pos (by omega), list_mono (list_some _ (by rw [hK _ hm]; exact hK2)) (by rw [hK _ hm]; omega), Option.bind_some, if_pos (by omega), hw, lists_l s K hK hK2 hs n (i + 1) _ (by omega) (by simp only [List.length_append, List.length_cons, List.length_nil]; omega), e]
    simp
theorem lists_some (s : List (List Bool)) (K : Nat) (hK : ∀ m, m ∈ s → m.length = K) (hK2 : K ≤ 1000000) (hs : s.length ≤ 1000000) : gram_lists.f (s.length + K + 2) s = some (s.map (listI 0)) := by
  have := lists_l s K hK hK2 hs s.length 0 [] (by omega) (by simp only [List.length_nil]; omega)
  simpa [gram_lists.f] using this
theorem list_calls (w : World) (A : Option Addr) (c : Nat) (l : List Bool) (h : kB.C w A l.length l) (hc : l.length ≤ c) (hl : l.length ≤ 1000000) :
    Calls Try.prog 29 #[.slice A l.length c] w fun e w' => ∃ v, e = .returned v ∧ kI.R 3 w' w.heap.size (fun _ => True) v (listI 0 l) ∧ Fr (fun _ => False) w w' := by
  refine (gram_list.calls _ A c l _ w h hc (list_some l hl)).mono ?_
  rintro e w' ⟨v, rfl, hR, hB⟩
  exact ⟨v, rfl, hR, Fr.of_below hB⟩
theorem lists_calls (w : World) (A : Option Addr) (c K : Nat) (s : List (List Bool)) (h : Kd.C kR w A s.length s) (hc : s.length ≤ c) (hK : ∀ m, m ∈ s → m.length = K) (hK2 : K ≤ 1000000) (hs : s.length ≤ 1000000) :
    Calls Try.prog 41 #[.slice A s.length c] w fun e w' => ∃ v, e = .returned v ∧ Kd.S (Kd.slice 3 kI) 27 w' w.heap.size (fun _ => True) v (s.map (listI 0)) ∧ Fr (fun _ => False) w w' := by
  refine (gram_lists.calls _ A c s _ w h hc (lists_some s K hK hK2 hs)).mono ?_
  rintro e w' ⟨v, rfl, hR, hB⟩
  exact ⟨v, rfl, hR, Fr.of_below hB⟩
end Go.Proofs.Ytdngobjcdajogaa.Gram
/-
What a row begins with: gram.First, walked.
-/
namespace Go.Proofs.Ytdngobjcdajogaa.Gram
open Go.RowKit Go.Proofs.YtdngobjcdajogaaW.PrintWords Go.Proofs.YtdngobjcdajogaaW.PrintLast Go.Proofs.YtdngobjcdajogaaW.PrintMore Go.Proofs.Ytdngobjcdajogaa.Fr Go.Proofs.Ytdngobjcdajogaa.PGramFirsts Go.Proofs.Ytdngobjcdajogaa.TextSet

noncomputable abbrev rowOf (G : Gr) (row : List Int) : List Bool × Bool := rowF G.kinds.length (closedL G false) (firstL G) (List.replicate G.kinds.length false) row
def FirstPost (w : World) (G : Gr) (row : List Int) (e : Ending) (w' : World) : Prop :=
  ∃ v em r l, e = .returned (.tuple #[v, .bool em, .int .i64 r]) ∧ kI.R 3 w' w.heap.size (fun _ => True) v l ∧ (r = 0 ↔ CheckOk G ∧ RowOk G.kinds.length G.rules.length row) ∧ (r = 0 → l = listI 0 (rowOf G row).1 ∧ em = (rowOf G row).2)
theorem FirstPost.no {w w' : World} {G : Gr} {row : List Int} {r : Int} (hr : r ≠ 0) (h : ¬ (CheckOk G ∧ RowOk G.kinds.length G.rules.length row)) : FirstPost w G row (.returned (.tuple #[.slice none 0 0, .bool false, .int .i64 r])) w' :=
  ⟨_, _, _, [], rfl, Kd.R_nil _ _ _ _ _, ⟨fun e => absurd e hr, fun e => absurd e h⟩, fun e => absurd e hr⟩
set_option maxHeartbeats 4000000 in
set_option maxRecDepth 100000 in
theorem first_calls (w : World) (G : Gr) (A0 A1 A2 A3 : Option Addr) (c0 c1 c2 c3 : Nat) (h : GAt w G A0 A1 A2 A3 c0 c1 c2 c3) (RA : Option Addr) (rc : Nat) (row : List Int) (hr : kI.C w RA row.length row) :
    Calls Try.prog 9 #[.agg #[.slice A0 G.kinds.length c0, .slice A1 G.precs.length c1, .slice A2 G.rules.length c2, .slice A3 G.prods.length c3, .int .i64 G.start], .slice RA row.length rc] w fun e w' =>
      FirstPost w G row e w' ∧ Fr (fun _ => False) w w' := by
  have hu := Try.underlying26
  have hu3 := Try.underlying79
  have hm := Kd.C_max hr
  have hm0 := Kd.C_max h.kinds
  have hm2 := Kd.C_max h.rules
  have HG := Aside0.mk h
  have HR := Aside0.mk hr
  have HW := Aside0.mk (show ChkW w (w.alloc (.cells #[.slice A0 G.kinds.length c0, .slice A1 G.precs.length c1, .slice A2 G.rules.length c2, .slice A3 G.prods.length c3, .int .i64 G.start] 26)) G A0 A1 A2 A3 c0 c1 c2 c3 from ⟨blk_new w _, (Fr.refl _ w).alloc _⟩)
  clear h hr
  go_enter Try.func9, Try.ntmps9
  go_upto_region 1 with fail
  generalize w.alloc (.cells #[.slice A0 G.kinds.length c0, .slice A1 G.precs.length c1, .slice A2 G.rules.length c2, .slice A3 G.prods.length c3, .int .i64 G.start] 26) = W0 at HW ⊢
  obtain ⟨e0, e1, e2, e3, e4⟩ := HW.out.cells
  go_wp2_with (fail)
  refine (check_calls _ G A0 A1 A2 A3 c0 c1 c2 c3 (HG.out.go HW.out.fr)).mono ?_
  rintro e W1 ⟨⟨r, rfl, hr1, hr2⟩, hF⟩
  have HW1 := Aside0.mk (HW.out.go hF)
  clear HW hF e0 e1 e2 e3 e4
  by_cases hr0 : r = 0
  · subst hr0
    have HC := Aside0.mk (hr1.1 rfl)
    have hK1 := HC.out.kinds.two
    have hK2 := HC.out.kinds.max
    have hR2 := (base_true HC.out.base).2.2.1
    clear hr1 hr2
    obtain ⟨e0, e1, e2, e3, e4⟩ := HW1.out.cells
    go_wp2_with (fail)
    go_loop [17] (fun a => ∃ k : Nat, a = .int .i64 k ∧ k ≤ row.length ∧ Aside0 (∀ j : Nat, j < k → 1 ≤ rd row j ∧ rd row j < G.kinds.length + G.rules.length)) (fun a => row.length - (intOf a).toNat)
    case atStart => exact ⟨0, rfl, Nat.zero_le _, ⟨fun j hj => by omega⟩⟩
    case round =>
      obtain ⟨k, rfl, hk, HS⟩ := hrel
      by_cases hlt : k < row.length
      · obtain ⟨ad, rfl, hx⟩ := Kd.at_int (HW1.out.fr.C (S := fun _ => False) (0 : Int) HR.out (fun _ _ _ => id)) (k : Int) (by omega) (by omega)
        simp only [Int.toNat_natCast] at hx
        by_cases x1 : rd row (k : Int) < 1
        · have HN := Aside0.mk (show ¬ (CheckOk G ∧ RowOk G.kinds.length G.rules.length row) from fun h => by have := (h.2 k hlt).1; omega)
          go_wp2_with (fail)
          go_ret3
          exact ⟨FirstPost.no (by decide) HN.out, HW1.out.fr⟩
        by_cases x2 : (G.kinds.length : Int) + G.rules.length ≤ rd row (k : Int)
        · have HN := Aside0.mk (show ¬ (CheckOk G ∧ RowOk G.kinds.length G.rules.length row) from fun h => by have := (h.2 k hlt).2; omega)
          go_wp2_with (fail)
          go_ret3
          exact ⟨FirstPost.no (by decide) HN.out, HW1.out.fr⟩
        have HX := Aside0.mk (show 1 ≤ rd row (k : Int) ∧ rd row (k : Int) < G.kinds.length + G.rules.length from ⟨by omega, by omega⟩)
        have HLT := Aside0.mk hlt
        go_wp2_with (fail)
        exact ⟨⟨k + 1, by go_num, HLT.out, ⟨fun j hj => by
          by_cases e : j = k
          · rw [e]; exact HX.out
          · exact HS.out j (by omega)⟩⟩, by have := HLT.out; simp [intOf]; omega⟩
      · obtain rfl : k = row.length := by omega
        have HRO := Aside0.mk (show RowOk G.kinds.length G.rules.length row from HS.out)
        go_wp2_with (fail)
        refine (know_calls _ G A0 A1 A2 A3 c0 c1 c2 c3 (HG.out.go HW1.out.fr) HC.out).mono ?_
        rintro e W2 ⟨p, mid, NA, FA, nc, fc, rfl, hK⟩
        have HK := Aside0.mk hK
        have HF2 := Aside0.mk (HW1.out.fr.trans hK.chk.fr (fun _ _ h => h))
        clear hK e0 e1 e2 e3 e4
        go_wp2_with (fail)
        refine (row_calls W2 p G A0 A1 A2 A3 NA FA RA c0 c1 c2 c3 nc fc rc (closedL G false) (firstL G) row (by
          have := HK.out.at (HG.out.go HW1.out.fr) (closedL_length G false) (firstL_sized G)
          exact this) (by omega) hK2 hR2 (HF2.out.C (S := fun _ => False) (0 : Int) HR.out (fun _ _ _ => id)) HRO.out).mono ?_
        rintro e W3 ⟨v3, rfl, hR3, hF3⟩
        have hl := (row_first HC.out.prodsOk HRO.out.syms).1
        have HPO := Aside0.mk (show ∀ (v : Value) (em : Bool) (l : List Int) (w' : World), kI.R 3 w' w.heap.size (fun _ => True) v l → l = listI 0 (rowOf G row).1 → em = (rowOf G row).2 → FirstPost w G row (.returned (.tuple #[v, .bool em, .int .i64 0])) w' from fun v em l w' h1 h2 h3 => ⟨v, em, 0, l, rfl, h1, ⟨fun _ => ⟨HC.out, HRO.out⟩, fun _ => rfl⟩, fun _ => ⟨h2, h3⟩⟩)
        have HPO : Aside0 (∀ (v : Value) (em : Bool) (l : List Int) (w' : World), kI.R 3 w' w.heap.size (fun _ => True) v l → l = listI 0 (rowF G.kinds.length (closedL G false) (firstL G) (List.replicate G.kinds.length false) row).1 → em = (rowF G.kinds.length (closedL G false) (firstL G) (List.replicate G.kinds.length false) row).2 → FirstPost w G row (.returned (.tuple #[v, .bool em, .int .i64 0])) w') := HPO
        generalize rowF G.kinds.length (closedL G false) (firstL G) (List.replicate G.kinds.length false) row = rr at hl hR3 HPO ⊢
        obtain ⟨A6, k6, rfl⟩ := Kd.R_slice hR3
        have HR3 := Aside0.mk hR3
        have HF3 := Aside0.mk (HF2.out.trans hF3 (fun _ _ h => h))
        have HL := Aside0.mk hl
        clear hR3 hF3 hl
        go_wp2_with (fail)
        refine (list_calls W3 A6 k6 _ (Kd.R_reads' HR3.out).2.2 (Kd.R_reads' HR3.out).2.1 (by rw [HL.out]; omega)).mono ?_
        rintro e W4 ⟨v4, rfl, hR4, hF4⟩
        have HR4 := Aside0.mk (Kd.R_lower hR4 HF3.out.size)
        have HF4 := Aside0.mk (HF3.out.trans hF4 (fun _ _ h => h))
        clear hR4 hF4
        go_wp2_with (fail)
        go_ret3
        exact ⟨HPO.out _ _ _ _ HR4.out rfl rfl, HF4.out⟩
  · have HN := Aside0.mk (show ¬ (CheckOk G ∧ RowOk G.kinds.length G.rules.length row) from fun h => hr0 (hr1.2 h.1))
    clear hr1
    go_wp2_with (fail)
    go_ret3
    exact ⟨FirstPost.no hr0 HN.out, HW1.out.fr⟩
end Go.Proofs.Ytdngobjcdajogaa.Gram
