/-
A row of texts and a row of precedences copied: slices.Clone, walked.
-/
import Derived.Test.YtdngobjcdajogaaT7QS
import Derived.Test.YtdngobjcdajogaaT7PE
import Derived.Test.YtdngobjcdajogaaT7QJ
namespace Go.Proofs.Ytdngobjcdajogaa.Gram
open Go.RowKit Go.Proofs.YtdngobjcdajogaaW.PrintWords Go.Proofs.YtdngobjcdajogaaW.PrintLast Go.Proofs.YtdngobjcdajogaaW.PrintMore Go.Proofs.Ytdngobjcdajogaa.Fr Go.Proofs.Ytdngobjcdajogaa.PGramFirsts Go.Proofs.Ytdngobjcdajogaa.TextSet
/-- An empty row that was made. -/
theorem row_made {α : Type} (d : Kd α) (w : World) (base e : Nat) (hb : base ≤ w.heap.size) : d.R e (w.alloc (.cells #[] e)) base (fun _ => True) (.slice (some ⟨w.heap.size, 0, none⟩) 0 0) [] := by
  refine ⟨fun _ _ => trivial, [], ?_, Reps.none _ _⟩
  have h := World.ownsRow_lit (base := base) (e := e) (size := d.sz) w #[] 0 hb (Nat.zero_le _) (by simp)
  simpa using h
theorem nil_S (w : World) (a : Addr) (n c : Nat) : (binOp BinOp.eql 22 (.slice (some a) n c) (.slice none 0 0)).run Try.prog w = .ok (.bool false) w := by
  simp only [binOp]
  simp [run_equal_slice_nil w 22 9 (some a) n c Try.underlying22]
theorem nil_P (w : World) (a : Addr) (n c : Nat) : (binOp BinOp.eql 23 (.slice (some a) n c) (.slice none 0 0)).run Try.prog w = .ok (.bool false) w := by
  simp only [binOp]
  simp [run_equal_slice_nil w 23 73 (some a) n c Try.underlying23]
set_option maxHeartbeats 2000000 in
set_option maxRecDepth 100000 in
theorem cloneS_calls (w : World) (ad : Addr) (n cap : Nat) (l : List ByteArray) (h : Kd.string.C w (some ad) l.length l) (hn : n = l.length) (hl : l.length ≤ 1000000) :
    Calls Try.prog 35 #[.slice (some ad) n cap] w fun e w' => ∃ v, e = .returned v ∧ Kd.string.R 9 w' w.heap.size (fun _ => True) v l ∧ Fr (fun _ => False) w w' := by
  have HL0 := Aside0.mk (row_made Kd.string w w.heap.size 9 (Nat.le_refl _))
  have HF0 := Aside0.mk ((Fr.refl (fun _ => False) w).alloc (.cells #[] 9))
  have HC0 := Aside0.mk (Kd.C_below h HF0.out.to_below)
  have HS := Aside0.mk hn
  have hs0 : w.heap.size ≤ (w.alloc (.cells #[] 9)).heap.size := by simp only [World.size_alloc]; omega
  clear h hn
  have hnil := fun w => nil_S w ad n cap
  go_enter Try.func35, Try.ntmps35
  go_wp2_with (first | ((with_reducible refine gate_builtin (b := .append) (xs := #[.tmp 5, .tmp 6]) rfl ?_); at_builtin; refine Kd.R_append_rows Kd.string (w0 := w.alloc (.cells #[] 9)) w.heap.size rfl (.tmp 5) (.tmp 6) 22 9 (.string ⟨#[]⟩) 16 rfl Try.underlying22 info9 rfl (by decide) (by omega) _ [] l _ n _ (fun _ => True) (fun _ => False) rfl rfl HL0.out (by rw [HS.out]; exact HC0.out) (fun _ _ h => h) (fun _ h => h.elim) (fun _ _ => trivial) (Below.refl _ _) hs0 (by have := HS.out; simp only [List.length_nil]; omega) ?_; intro v1 W1 h1 hb1 hg1 hat1; have H1 := Aside0.mk (show Kd.string.R 9 W1 w.heap.size (fun _ => True) v1 l from h1); have HF1 := Aside0.mk (show Fr (fun _ => False) w W1 from HF0.out.trans (T := fun k => w.heap.size ≤ k) ⟨hg1.os, hg1.tape, hg1.output, hg1.size, fun i hi hn => hg1.block i hi (fun e => hn (Kd.R_base HL0.out i e.symm))⟩ (fun k hk e => by omega)); clear h1 hb1 hg1 hat1))
  go_ret
  exact ⟨_, rfl, H1.out, HF1.out⟩
set_option maxHeartbeats 2000000 in
set_option maxRecDepth 100000 in
theorem cloneP_calls (w : World) (ad : Addr) (n cap : Nat) (l : List S73) (h : k73.C w (some ad) l.length l) (hn : n = l.length) (hl : l.length ≤ 1000000) :
    Calls Try.prog 36 #[.slice (some ad) n cap] w fun e w' => ∃ v, e = .returned v ∧ k73.R 73 w' w.heap.size (fun _ => True) v l ∧ Fr (fun _ => False) w w' := by
  have HL0 := Aside0.mk (row_made k73 w w.heap.size 73 (Nat.le_refl _))
  have HF0 := Aside0.mk ((Fr.refl (fun _ => False) w).alloc (.cells #[] 73))
  have HC0 := Aside0.mk (Kd.C_below h HF0.out.to_below)
  have HS := Aside0.mk hn
  have hs0 : w.heap.size ≤ (w.alloc (.cells #[] 73)).heap.size := by simp only [World.size_alloc]; omega
  clear h hn
  have hnil := fun w => nil_P w ad n cap
  go_enter Try.func36, Try.ntmps36
  go_wp2_with (first | ((with_reducible refine gate_builtin (b := .append) (xs := #[.tmp 5, .tmp 6]) rfl ?_); at_builtin; refine Kd.R_append_rows k73 (w0 := w.alloc (.cells #[] 73)) w.heap.size rfl (.tmp 5) (.tmp 6) 23 73 (.agg #[(.int .i64 0), (.int .i64 0)]) 16 rfl Try.underlying23 info73 rfl (by decide) (by omega) _ [] l _ n _ (fun _ => True) (fun _ => False) rfl rfl HL0.out (by rw [HS.out]; exact HC0.out) (fun x cs h => by rw [k73_open h]; exact k73_mkM _ _ _ x) (fun _ h => h.elim) (fun _ _ => trivial) (Below.refl _ _) hs0 (by have := HS.out; simp only [List.length_nil]; omega) ?_; intro v1 W1 h1 hb1 hg1 hat1; have H1 := Aside0.mk (show k73.R 73 W1 w.heap.size (fun _ => True) v1 l from h1); have HF1 := Aside0.mk (show Fr (fun _ => False) w W1 from HF0.out.trans (T := fun k => w.heap.size ≤ k) ⟨hg1.os, hg1.tape, hg1.output, hg1.size, fun i hi hn => hg1.block i hi (fun e => hn (Kd.R_base HL0.out i e.symm))⟩ (fun k hk e => by omega)); clear h1 hb1 hg1 hat1))
  go_ret
  exact ⟨_, rfl, H1.out, HF1.out⟩
end Go.Proofs.Ytdngobjcdajogaa.Gram
namespace Go.Proofs.Ytdngobjcdajogaa.Gram
open Go.RowKit Go.Proofs.YtdngobjcdajogaaW.PrintWords Go.Proofs.YtdngobjcdajogaaW.PrintLast Go.Proofs.YtdngobjcdajogaaW.PrintMore Go.Proofs.Ytdngobjcdajogaa.Fr Go.Proofs.Ytdngobjcdajogaa.PGramFirsts Go.Proofs.Ytdngobjcdajogaa.TextSet
/-- An action with no more than a thousand parts of any part. -/
inductive Sml : S55 → Prop where
  | mk (a : S55) (hl : a.f3.length ≤ 1000) (hk : ∀ k, k ∈ a.f3 → Sml k) : Sml a
theorem parts_ge (syms : Int) : ∀ (N : Nat) (a : S55), SizeOf.sizeOf a < N → ∀ n : Int, n + 1 ≤ (partsF syms a n).2
  | 0, _, h, _ => absurd h (Nat.not_lt_zero _)
  | N + 1, a, h, n => by
    have key : ∀ (l : List S55), (∀ k, k ∈ l → SizeOf.sizeOf k < N) → ∀ (ok : Bool) (n : Int), n ≤ (kidsF syms l ok n).2 := by
      intro l
      induction l with
      | nil => intro _ ok n; simp [kidsF]
      | cons k ks ih =>
        intro hk ok n
        simp only [kidsF]
        split
        · have h1 := parts_ge syms N k (hk k (List.mem_cons_self ..)) n
          have h2 := ih (fun x hx => hk x (List.mem_cons_of_mem _ hx)) (partsF syms k n).1 (partsF syms k n).2
          omega
        · exact ih (fun x hx => hk x (List.mem_cons_of_mem _ hx)) _ _
    rw [partsF_eq]
    refine key a.f3 (fun k hk => ?_) _ _
    have h2 := List.sizeOf_lt_of_mem hk
    have h3 : SizeOf.sizeOf a.f3 < SizeOf.sizeOf a := by
      cases a
      simp
      omega
    omega
theorem kids_false (syms : Int) : ∀ (l : List S55) (n : Int), (kidsF syms l false n).1 = false
  | [], n => by simp [kidsF]
  | k :: ks, n => by
    simp only [kidsF]
    rw [if_neg (by simp)]
    exact kids_false syms ks n
theorem kids_true (syms : Int) : ∀ (l : List S55) (ok : Bool) (n : Int), (kidsF syms l ok n).1 = true → (l = [] ∨ n + l.length ≤ 257) ∧ ∀ k, k ∈ l → ∃ m, n ≤ m ∧ (partsF syms k m).1 = true
  | [], _, _, _ => ⟨.inl rfl, fun k hk => by cases hk⟩
  | k :: ks, ok, n, h => by
    simp only [kidsF] at h
    split at h
    · rename_i hc
      obtain ⟨h1, h2⟩ := kids_true syms ks _ _ h
      have hg := parts_ge syms (SizeOf.sizeOf k + 1) k (Nat.lt_succ_self _) n
      have hb : (partsF syms k n).1 = true := by
        cases hb : (partsF syms k n).1 with
        | true => rfl
        | false => rw [hb, kids_false] at h; cases h
      refine ⟨.inr ?_, fun x hx => ?_⟩
      · rcases h1 with rfl | h1
        · have := hc.2
          simp only [List.length_cons, List.length_nil]
          omega
        · simp only [List.length_cons]
          omega
      · rcases List.mem_cons.1 hx with rfl | hx
        · exact ⟨n, Int.le_refl _, hb⟩
        · obtain ⟨m, hm, hp⟩ := h2 x hx
          exact ⟨m, by omega, hp⟩
    · rw [kids_false] at h
      cases h
theorem sml_upto (syms : Int) : ∀ (N : Nat) (a : S55), SizeOf.sizeOf a < N → ∀ n : Int, 0 ≤ n → (partsF syms a n).1 = true → Sml a
  | 0, _, h, _, _, _ => absurd h (Nat.not_lt_zero _)
  | N + 1, a, h, n, h0, hp => by
    rw [partsF_eq] at hp
    obtain ⟨h1, h2⟩ := kids_true syms _ _ _ (Bool.and_eq_true _ _ ▸ hp).1
    refine .mk a ?_ (fun k hk => ?_)
    · rcases h1 with e | h1
      · rw [e]; exact Nat.zero_le _
      · omega
    · obtain ⟨m, hm, hq⟩ := h2 k hk
      refine sml_upto syms N k ?_ m (by omega) hq
      have h2 := List.sizeOf_lt_of_mem hk
      have h3 : SizeOf.sizeOf a.f3 < SizeOf.sizeOf a := by
        cases a
        simp
        omega
      omega
theorem ProdOk.sml {K R : Nat} {p : S57} (h : ProdOk K R p) : Sml p.f3 := sml_upto _ _ p.f3 (Nat.lt_succ_self _) 0 (Int.le_refl _) h.act
theorem all_from {α : Type} {P : Nat → α → Prop} (hm : ∀ k m x, k ≤ m → P k x → P m x) : ∀ (l : List α), (∀ x, x ∈ l → ∃ K, P K x) → ∃ K, ∀ x, x ∈ l → P K x
  | [], _ => ⟨0, fun x hx => by cases hx⟩
  | a :: l, h => by
    obtain ⟨K1, h1⟩ := h a (List.mem_cons_self ..)
    obtain ⟨K2, h2⟩ := all_from hm l (fun x hx => h x (List.mem_cons_of_mem _ hx))
    refine ⟨K1 + K2, fun x hx => ?_⟩
    rcases List.mem_cons.1 hx with rfl | hx
    · exact hm _ _ _ (Nat.le_add_right _ _) h1
    · exact hm _ _ _ (Nat.le_add_left _ _) (h2 x hx)
theorem copied_mono {a0 a1 : Int} {a2 : ByteArray} {a3 : List S55} {r : Int × Int × ByteArray × List S55} {k m : Nat} (hm : k ≤ m) (h : gram_copied.f k a0 a1 a2 a3 = some r) : gram_copied.f m a0 a1 a2 a3 = some r := by
  induction hm with
  | refl => exact h
  | step _ ih => exact gram_copied.mono _ _ _ _ _ _ ih
theorem drop_T55 {l : List S55} {i : Nat} (h : i < l.length) : l.drop i = rd_T55 l i :: l.drop (i + 1) := by
  rw [List.drop_eq_getElem_cons h]
  simp [rd_T55, List.getD_eq_getElem?_getD, h]
theorem mem_T55 {l : List S55} {i : Nat} (h : i < l.length) : rd_T55 l i ∈ l := by
  simp [rd_T55, List.getD_eq_getElem?_getD, h]
theorem copied_l (K : Nat) (a0 a1 : Int) (a2 : ByteArray) (l l' : List S55) (hl : l.length ≤ 1000) (hK : ∀ k, k ∈ l → gram_copied.f K k.f0 k.f1 k.f2 k.f3 = some (k.f0, k.f1, k.f2, k.f3)) : ∀ (n i : Nat) (x : List S55), i + n = l.length → x.length + n ≤ 1000 →
    gram_copied.l0 (K + n + 1) x l (l.length : Int) (i : Int) a0 a1 a2 l' = some (a0, a1, a2, x ++ l.drop i)
  | 0, i, x, h, _ => by
    obtain rfl : i = l.length := by omega
    simp [gram_copied.l0]
  | n + 1, i, x, h, hx => by
    have hi : i < l.length := by omega
    have hw : wrap64 ((i : Int) + 1) = ((i + 1 : Nat) : Int) := by simp only [wrap64]; omega
    have hk := copied_mono (show K ≤ K + (n + 1) by omega) (hK _ (mem_T55 hi))
    rw [gram_copied.l0, if_pos (by omega), if_pos (by omega), if_pos (by omega), hk, Option.bind_some, if_pos (by omega), hw]
    rw [show K + (n + 1) = K + n + 1 by omega, copied_l K a0 a1 a2 l l' hl hK n (i + 1) _ (by omega) (by simp only [List.length_append, List.length_cons, List.length_nil]; omega), drop_T55 hi]
    simp
    cases rd_T55 l (i : Int)
    rfl
theorem copied_some {a : S55} (h : Sml a) : ∃ K, gram_copied.f K a.f0 a.f1 a.f2 a.f3 = some (a.f0, a.f1, a.f2, a.f3) := by
  induction h with
  | mk a hl _ ih =>
    obtain ⟨K, hK⟩ := all_from (P := fun K k => gram_copied.f K k.f0 k.f1 k.f2 k.f3 = some (k.f0, k.f1, k.f2, k.f3)) (fun k m x hm h => copied_mono (a0 := x.f0) (a1 := x.f1) (a2 := x.f2) (a3 := x.f3) hm h) a.f3 ih
    refine ⟨K + a.f3.length + 2, ?_⟩
    have := copied_l K a.f0 a.f1 a.f2 a.f3 a.f3 hl hK a.f3.length 0 [] (by omega) (by simpa using hl)
    simpa [gram_copied.f] using this
theorem copied_calls (w : World) (a : S55) (A : Option Addr) (c : Nat) (h : k55.C w A a.f3.length a.f3) (hc : a.f3.length ≤ c) (hs : Sml a) :
    Calls Try.prog 37 #[.agg #[.int .i64 a.f0, .int .i64 a.f1, .string a.f2, .slice A a.f3.length c]] w fun e w' => ∃ v, e = .returned (.agg #[.int .i64 a.f0, .int .i64 a.f1, .string a.f2, v]) ∧ k55.R 55 w' w.heap.size (fun _ => True) v a.f3 ∧ Fr (fun _ => False) w w' := by
  obtain ⟨K, hK⟩ := copied_some hs
  refine (gram_copied.calls K a.f0 a.f1 a.f2 A c a.f3 _ _ _ _ w h hc hK).mono ?_
  rintro e w' ⟨v, rfl, hR, hB⟩
  exact ⟨v, rfl, hR, Fr.of_below hB⟩
theorem sameact_mono {a0 a1 b0 b1 : Int} {a2 b2 : ByteArray} {a3 b3 : List S55} {r : Bool} {k m : Nat} (hm : k ≤ m) (h : quoinref12_sameAct.f k a0 a1 a2 a3 b0 b1 b2 b3 = some r) : quoinref12_sameAct.f m a0 a1 a2 a3 b0 b1 b2 b3 = some r := by
  induction hm with
  | refl => exact h
  | step _ ih => exact quoinref12_sameAct.mono _ _ _ _ _ _ _ _ _ _ ih
theorem sameact_l (K : Nat) (a0 a1 : Int) (a2 : ByteArray) (l : List S55) (hl : l.length ≤ 1000) (hK : ∀ k, k ∈ l → quoinref12_sameAct.f K k.f0 k.f1 k.f2 k.f3 k.f0 k.f1 k.f2 k.f3 = some true) : ∀ (n i : Nat), i + n = l.length →
    quoinref12_sameAct.l0 (K + n + 1) (i : Int) a0 a1 a2 l a0 a1 a2 l = some true
  | 0, i, h => by
    obtain rfl : i = l.length := by omega
    simp [quoinref12_sameAct.l0]
  | n + 1, i, h => by
    have hi : i < l.length := by omega
    have hw : wrap64 ((i : Int) + 1) = ((i + 1 : Nat) : Int) := by simp only [wrap64]; omega
    have hk := sameact_mono (show K ≤ K + (n + 1) by omega) (hK _ (mem_T55 hi))
    rw [quoinref12_sameAct.l0, if_pos (by omega), if_pos (by omega), if_pos (by omega), hk, Option.bind_some, if_pos rfl, hw]
    rw [show K + (n + 1) = K + n + 1 by omega]
    exact sameact_l K a0 a1 a2 l hl hK n (i + 1) (by omega)
theorem sameact_some {a : S55} (h : Sml a) : ∃ K, quoinref12_sameAct.f K a.f0 a.f1 a.f2 a.f3 a.f0 a.f1 a.f2 a.f3 = some true := by
  induction h with
  | mk a hl _ ih =>
    obtain ⟨K, hK⟩ := all_from (P := fun K (k : S55) => quoinref12_sameAct.f K k.f0 k.f1 k.f2 k.f3 k.f0 k.f1 k.f2 k.f3 = some true) (fun k m x hm h => sameact_mono (a0 := x.f0) (a1 := x.f1) (a2 := x.f2) (a3 := x.f3) (b0 := x.f0) (b1 := x.f1) (b2 := x.f2) (b3 := x.f3) hm h) a.f3 ih
    refine ⟨K + a.f3.length + 3, ?_⟩
    have := sameact_l K a.f0 a.f1 a.f2 a.f3 hl hK a.f3.length 0 (by omega)
    simpa [quoinref12_sameAct.f, quoinref12_sameAct.j0] using this
theorem sameact_calls (w : World) (a : S55) (A B : Option Addr) (c d : Nat) (h : k55.C w A a.f3.length a.f3) (hc : a.f3.length ≤ c) (h2 : k55.C w B a.f3.length a.f3) (hd : a.f3.length ≤ d) (hs : Sml a) :
    Calls Try.prog 44 #[.agg #[.int .i64 a.f0, .int .i64 a.f1, .string a.f2, .slice A a.f3.length c], .agg #[.int .i64 a.f0, .int .i64 a.f1, .string a.f2, .slice B a.f3.length d]] w fun e w' => e = .returned (.bool true) ∧ Fr (fun _ => False) w w' := by
  obtain ⟨K, hK⟩ := sameact_some hs
  refine (quoinref12_sameAct.calls K a.f0 a.f1 a.f2 A c a.f3 a.f0 a.f1 a.f2 B d a.f3 true w h hc h2 hd hK).mono ?_
  rintro e w' ⟨rfl, hB⟩
  exact ⟨rfl, Fr.of_below hB⟩
theorem samets_l (l : List ByteArray) (hl : l.length ≤ 1000000) : ∀ (n i : Nat), i + n = l.length → quoinref12_sameTexts.l0 (n + 1) l l (i : Int) = some true
  | 0, i, h => by
    obtain rfl : i = l.length := by omega
    simp [quoinref12_sameTexts.l0]
  | n + 1, i, h => by
    have hi : i < l.length := by omega
    have hw : wrap64 ((i : Int) + 1) = ((i + 1 : Nat) : Int) := by simp only [wrap64]; omega
    rw [quoinref12_sameTexts.l0, if_pos (by omega), if_pos (by omega), if_pos (by omega), if_pos rfl, hw]
    exact samets_l l hl n (i + 1) (by omega)
theorem samets_calls (w : World) (A B : Option Addr) (n m c d : Nat) (l : List ByteArray) (hn : n = l.length) (hm : m = l.length) (h : Kd.string.C w A l.length l) (hc : l.length ≤ c) (h2 : Kd.string.C w B l.length l) (hd : l.length ≤ d) (hl : l.length ≤ 1000000) :
    Calls Try.prog 43 #[.slice A n c, .slice B m d] w fun e w' => e = .returned (.bool true) ∧ Fr (fun _ => False) w w' := by
  subst hn hm
  have hf : quoinref12_sameTexts.f (l.length + 1) l l = some true := by
    have := samets_l l hl l.length 0 (by omega)
    simpa [quoinref12_sameTexts.f] using this
  refine (quoinref12_sameTexts.calls _ A c l B d l true w h hc h2 hd hf).mono ?_
  rintro e w' ⟨rfl, hB⟩
  exact ⟨rfl, Fr.drawn hB⟩
end Go.Proofs.Ytdngobjcdajogaa.Gram
namespace Go.Proofs.Ytdngobjcdajogaa.Gram
open Go.RowKit Go.Proofs.YtdngobjcdajogaaW.PrintWords Go.Proofs.YtdngobjcdajogaaW.PrintLast Go.Proofs.YtdngobjcdajogaaW.PrintMore Go.Proofs.Ytdngobjcdajogaa.Fr Go.Proofs.Ytdngobjcdajogaa.PGramFirsts Go.Proofs.Ytdngobjcdajogaa.TextSet
/-- Whether a production may stay. -/
def goodB (K : Nat) (marks : List Bool) (p : S57) : Bool := rdOf false marks p.f0 && wholeF K marks true p.f1
theorem bools_at {W : World} {g n : Nat} {M : List Bool} (h : kB.C W (some ⟨g, 0, none⟩) n M) {i : Int} (h0 : 0 ≤ i) (h1 : i < n) : W.cell? ⟨g, i.toNat, none⟩ = some (.bool (rdOf false M i)) := by
  obtain ⟨adm, ea, hxm⟩ := Kd.at_bool h i h0 h1
  injection ea with ea
  subst ea
  rwa [add_plain] at hxm
set_option maxHeartbeats 4000000 in
set_option maxRecDepth 100000 in
theorem good_calls (W : World) (G : Gr) (A0 A1 A2 A3 : Option Addr) (c0 c1 c2 c3 : Nat) (h : GAt W G A0 A1 A2 A3 c0 c1 c2 c3) (hK : G.kinds.length ≤ 1024) (hR : G.rules.length ≤ 2048) (p1 p2 gm cap : Nat) (marks : List Bool) (hml : marks.length = G.rules.length) (hm : kB.C W (some ⟨gm, 0, none⟩) marks.length marks) (hmc : marks.length ≤ cap)
    (b1 : W.heap[p1]? = some (.cells #[.slice (some ⟨gm, 0, none⟩) G.rules.length cap] 36 (0, 0))) (b2 : W.heap[p2]? = some (.cells #[.slice A0 G.kinds.length c0, .slice A1 G.precs.length c1, .slice A2 G.rules.length c2, .slice A3 G.prods.length c3, .int .i64 G.start] 26 (0, 0)))
    (p : S57) (l0 : 0 ≤ p.f0) (l1 : p.f0 < G.rules.length) (hro : RowOk G.kinds.length G.rules.length p.f1) (hrl : p.f1.length ≤ 64) (B1 B6 : Option Addr) (d1 d6 : Nat) (hr : kI.C W B1 p.f1.length p.f1) (hd : p.f1.length ≤ d1) :
    Calls Try.prog 32 #[.agg #[.int .i64 p.f0, .slice B1 p.f1.length d1, .int .i64 p.f2, .int .i64 p.f3.f0, .int .i64 p.f3.f1, .string p.f3.f2, .slice B6 p.f3.f3.length d6], .pointer (some ⟨p1, 0, none⟩), .pointer (some ⟨p2, 0, none⟩)] W fun e w' =>
      e = .returned (.bool (goodB G.kinds.length marks p)) ∧ Fr (fun _ => False) W w' := by
  have hu := Try.underlying26
  have hu2 := Try.underlying57
  have HB := Aside0.mk (blk_new W (.cells #[.int .i64 p.f0, .slice B1 p.f1.length d1, .int .i64 p.f2, .int .i64 p.f3.f0, .int .i64 p.f3.f1, .string p.f3.f2, .slice B6 p.f3.f3.length d6] 57))
  have HF := Aside0.mk ((Fr.refl (fun _ => False) W).alloc (.cells #[.int .i64 p.f0, .slice B1 p.f1.length d1, .int .i64 p.f2, .int .i64 p.f3.f0, .int .i64 p.f3.f1, .string p.f3.f2, .slice B6 p.f3.f3.length d6] 57))
  have HX := Aside0.mk (fun W' (hF : Fr (fun _ => False) W W') => hF.cell (bools_at hm l0 (by omega)) id)
  have HB1 := Aside0.mk (fun W' (hF : Fr (fun _ => False) W W') => hF.blk b1 id)
  have HB2 := Aside0.mk (fun W' (hF : Fr (fun _ => False) W W') => hF.blk b2 id)
  have HWH := Aside0.mk (fun W' (hF : Fr (fun _ => False) W W') => whole_calls W' G A0 A1 A2 A3 (some ⟨gm, 0, none⟩) B1 c0 c1 c2 c3 cap d1 marks p.f1 true (h.go hF) (Kd.C_below hm hF.to_below) hmc (Kd.C_below hr hF.to_below) hd hK hR hml hro (by omega))
  rw [hml] at HWH
  have HGD := Aside0.mk (show goodB G.kinds.length marks p = (rdOf false marks p.f0 && wholeF G.kinds.length marks true p.f1) from rfl)
  generalize wholeF G.kinds.length marks true p.f1 = wb at HWH HGD
  generalize rdOf false marks p.f0 = mb at HX HGD
  generalize goodB G.kinds.length marks p = gb at HGD
  clear h hm b1 b2 hr hro hml hmc
  go_enter Try.func32, Try.ntmps32
  go_upto_region 1 with fail
  generalize W.alloc (.cells #[.int .i64 p.f0, .slice B1 p.f1.length d1, .int .i64 p.f2, .int .i64 p.f3.f0, .int .i64 p.f3.f1, .string p.f3.f2, .slice B6 p.f3.f3.length d6] 57) = W0 at HB HF ⊢
  generalize W.heap.size = q at HB ⊢
  have z0 := (blk_cell HB.out 0).trans (show _ = some (Value.int .i64 p.f0) from rfl)
  have z1 := (blk_cell HB.out 1).trans (show _ = some (Value.slice B1 p.f1.length d1) from rfl)
  have m1 := (blk_cell (HB1.out W0 HF.out) 0).trans (show _ = some (Value.slice (some ⟨gm, 0, none⟩) G.rules.length cap) from rfl)
  have g0 := (blk_cell (HB2.out W0 HF.out) 0).trans (show _ = some (Value.slice A0 G.kinds.length c0) from rfl)
  have g1 := (blk_cell (HB2.out W0 HF.out) 1).trans (show _ = some (Value.slice A1 G.precs.length c1) from rfl)
  have g2 := (blk_cell (HB2.out W0 HF.out) 2).trans (show _ = some (Value.slice A2 G.rules.length c2) from rfl)
  have g3 := (blk_cell (HB2.out W0 HF.out) 3).trans (show _ = some (Value.slice A3 G.prods.length c3) from rfl)
  have g4 := (blk_cell (HB2.out W0 HF.out) 4).trans (show _ = some (Value.int .i64 G.start) from rfl)
  have hx := HX.out W0 HF.out
  cases mb with
  | false =>
    have HE := Aside0.mk (show gb = false by rw [HGD.out]; rfl)
    have HF1 := HF
    clear HX HB1 HB2 HWH HGD g0 g1 g2 g3 g4
    go_wp2_with (fail)
    go_ret
    rw [HE.out]
    exact ⟨rfl, HF1.out⟩
  | true =>
    have HE := Aside0.mk (show gb = wb by rw [HGD.out]; rfl)
    clear HX HB1 HB2 HGD
    go_wp2_with (fail)
    refine (HWH.out _ HF.out).mono ?_
    rintro e W6 ⟨rfl, hF6⟩
    have HF6 := Aside0.mk hF6
    clear hF6 z0 z1 m1 hx g0 g1 g2 g3 g4
    have HF7 := Aside0.mk (HF.out.trans HF6.out (fun _ _ hf => hf))
    clear HF HF6 HWH
    go_wp2_with (fail)
    go_ret
    rw [HE.out]
    exact ⟨rfl, HF7.out⟩
end Go.Proofs.Ytdngobjcdajogaa.Gram
