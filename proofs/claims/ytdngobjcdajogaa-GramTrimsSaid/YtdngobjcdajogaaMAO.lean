/-
How many kinds a row makes at least: gram.size, and the plain law of the least numbers.
-/
import Derived.Test.YtdngobjcdajogaaMAL
import Derived.Test.YtdngobjcdajogaaMAN
import Derived.Test.YtdngobjcdajogaaMAK
set_option linter.unusedSimpArgs false
set_option linter.unusedVariables false
namespace Go.Proofs.Ytdngobjcdajogaa.Gram
open Go.RowKit Go.Proofs.YtdngobjcdajogaaW.PrintWords Go.Proofs.YtdngobjcdajogaaW.PrintLast Go.Proofs.YtdngobjcdajogaaW.PrintMore Go.Proofs.Ytdngobjcdajogaa.Fr Go.Proofs.Ytdngobjcdajogaa.PGramFirsts Go.Proofs.Ytdngobjcdajogaa.TextSet
def sizeF (K : Nat) (L : List Int) : Int → List Int → Int
 | n, [] => n
 | n, x :: l => if x < K then sizeF K L (mn (n + 1) 65537) l else if rd L (x - K) < 0 then -1 else sizeF K L (mn (n + rd L (x - K)) 65537) l
def Bound (L : List Int) : Prop := ∀ i : Int, -1 ≤ rd L i ∧ rd L i ≤ 65537
theorem mn_le (a b : Int) : mn a b = if a ≤ b then a else b := by unfold mn; split <;> split <;> omega
theorem size_l (a b c d e) (L row : List Int) (hK : a.length ≤ 1024) (hL : L.length ≤ 2048) (hB : Bound L) (hrow : RowOk a.length L.length row) (hl : row.length ≤ 4611686018427387904) :
 ∀ (n i : Nat) (p : Int), i + n = row.length → 0 ≤ p → p ≤ 65537 → gram_size.l0 (n + 1) L p row row.length i a b c d e = some (sizeF a.length L p (row.drop i))
 | 0, i, p, h, _, _ => by
  unfold gram_size.l0; rw [if_neg (by omega), List.drop_eq_nil_of_le (by omega)]; rfl
 | n + 1, i, p, h, hp, hp2 => by
  have ih := fun p => size_l a b c d e L row hK hL hB hrow hl n (i + 1) p (by omega)
  have hw : wrap64 ((i : Int) + 1) = ((i + 1 : Nat) : Int) := by simp only [wrap64]; omega
  obtain ⟨h1, h2⟩ := hrow i (by omega); have hd : row.drop i = rd row i :: row.drop (i + 1) := drop_rd (by omega); unfold gram_size.l0; rw [if_pos (by omega), if_pos (by omega), if_pos (by omega), isRule_f a b c d e _ hK h1 (by omega), hw, hd]; simp only [Option.bind_some, sizeF]; by_cases hx : rd row i < a.length
  · rw [if_pos hx, if_pos hx, if_pos (by decide), show wrap64 (p + 1) = p + 1 by simp only [wrap64]; omega]
    refine ih _ ?_ ?_ <;> rw [mn_le] <;> split <;> omega
  · obtain ⟨b1, b2⟩ := hB (rd row i - a.length)
    rw [if_neg hx, if_neg hx, if_neg (by omega), if_pos (by omega), if_pos (by omega)]; by_cases hr : rd L (rd row i - a.length) < 0
    · rw [if_pos hr, if_pos hr]
    · rw [if_neg hr, if_neg hr, show wrap64 (p + rd L (rd row i - a.length)) = p + rd L (rd row i - a.length) by simp only [wrap64]; omega]
      refine ih _ ?_ ?_ <;> rw [mn_le] <;> split <;> omega
theorem size_calls (w : World) (G : Gr) (A0 A1 A2 A3 : Option Addr) (c0 c1 c2 c3 : Nat) (h : GAt w G A0 A1 A2 A3 c0 c1 c2 c3) (LA RA : Option Addr) (lc rc : Nat) (L row : List Int) (hK : G.kinds.length ≤ 1024) (hR : G.rules.length ≤ 2048) (hL : kI.C w LA L.length L) (hlc : L.length ≤ lc) (hr : kI.C w RA row.length row) (hrc : row.length ≤ rc) (hln : L.length = G.rules.length) (hB : Bound L) (hrow : RowOk G.kinds.length G.rules.length row) (hl : row.length ≤ 4611686018427387904) :
 Calls Try.prog 68 #[.agg #[.slice A0 G.kinds.length c0, .slice A1 G.precs.length c1, .slice A2 G.rules.length c2, .slice A3 G.prods.length c3, .int .i64 G.start], .slice LA L.length lc, .slice RA row.length rc] w fun e w' =>
  e = .returned (.int .i64 (sizeF G.kinds.length L 0 row)) ∧ Fr (fun _ => False) w w' := by
 have hs := size_l G.kinds G.precs G.rules G.prods G.start L row hK (by omega) hB (by rw [hln]; exact hrow) hl row.length 0 0 (by omega) (by omega) (by omega); refine (gram_size.calls (row.length + 1) A0 c0 G.kinds A1 c1 G.precs A2 c2 G.rules A3 c3 G.prods G.start LA lc L RA rc row _ w h.kinds h.l0 h.precs h.l1 h.rules h.l2 h.prods h.l3 hL hlc hr hrc hs).mono ?_; rintro e w' ⟨rfl, hF⟩; exact ⟨rfl, Fr.of_below hF⟩
inductive Siz (G : Gr) : List Int → Nat → Prop
 | nil : Siz G [] 0
 | kind {x : Int} {l : List Int} {n : Nat} : x < G.kinds.length → Siz G l n → Siz G (x :: l) (n + 1)
 | rule {x : Int} {l : List Int} {i m n : Nat} : ¬ x < G.kinds.length → i < G.prods.length → (rd_T57 G.prods i).f0 = x - G.kinds.length → Siz G (rd_T57 G.prods i).f1 m → Siz G l n → Siz G (x :: l) (m + n)
theorem Siz.one {G : Gr} {x : Int} {m : Nat} (h : Siz G [x] m) (hx : ¬ x < G.kinds.length) : ∃ i : Nat, i < G.prods.length ∧ (rd_T57 G.prods i).f0 = x - G.kinds.length ∧ Siz G (rd_T57 G.prods i).f1 m := by
 cases h with
 | kind h1 _ => exact absurd h1 hx
 | rule _ h2 h3 h4 h5 =>
  cases h5
  exact ⟨_, h2, h3, h4⟩
theorem Siz.cons {G : Gr} {x : Int} {l : List Int} {m n : Nat} (h : Siz G [x] m) (hx : ¬ x < G.kinds.length) (h2 : Siz G l n) : Siz G (x :: l) (m + n) := by
 obtain ⟨i, h3, h4, h5⟩ := h.one hx; exact .rule hx h3 h4 h5 h2
def minF (n : Nat) : Int := if (n : Int) ≤ 65537 then n else 65537
theorem minF_le (n : Nat) : minF n ≤ 65537 ∧ 0 ≤ minF n ∧ minF n ≤ n := by unfold minF; split <;> omega
def SoundL (G : Gr) (L : List Int) : Prop := ∀ a : Nat, a < G.rules.length → 0 ≤ rd L a → ∃ n, Siz G [(G.kinds.length + a : Int)] n ∧ rd L a = minF n
theorem size_sound {G : Gr} {L : List Int} (hS : SoundL G L) : ∀ (row : List Int) (q : Nat), SymsOk G row → 0 ≤ sizeF G.kinds.length L (minF q) row → ∃ n, Siz G row n ∧ sizeF G.kinds.length L (minF q) row = minF (q + n)
 | [], q, _, _ => ⟨0, .nil, rfl⟩
 | x :: l, q, hs, h => by
  have hx := hs x List.mem_cons_self; have hs2 : SymsOk G l := fun y hy => hs y (List.mem_cons_of_mem _ hy)
  simp only [sizeF] at h ⊢; by_cases hk : x < G.kinds.length
  · rw [if_pos hk] at h ⊢
    have e : mn (minF q + 1) 65537 = minF (q + 1) := by rw [mn_le]; unfold minF; split <;> split <;> split <;> omega
    rw [e] at h ⊢; obtain ⟨n, h1, h2⟩ := size_sound hS l (q + 1) hs2 h; exact ⟨n + 1, .kind hk h1, by rw [h2, show q + 1 + n = q + (n + 1) by omega]⟩
  · rw [if_neg hk] at h ⊢
    by_cases hr : rd L (x - G.kinds.length) < 0
    · rw [if_pos hr] at h
      omega
    · rw [if_neg hr] at h ⊢
      obtain ⟨m, hm, e⟩ := hS (x - G.kinds.length).toNat (by omega) (by rw [Int.toNat_of_nonneg (by omega)]; omega); rw [Int.toNat_of_nonneg (by omega)] at e hm; rw [show (G.kinds.length : Int) + (x - G.kinds.length) = x by omega] at hm; have e2 : mn (minF q + rd L (x - G.kinds.length)) 65537 = minF (q + m) := by rw [e, mn_le]; unfold minF; split <;> split <;> split <;> split <;> omega
      rw [e2] at h ⊢; obtain ⟨n, h1, h2⟩ := size_sound hS l (q + m) hs2 h; exact ⟨m + n, hm.cons hk h1, by rw [h2, show q + m + n = q + (m + n) by omega]⟩
def ClosedL (G : Gr) (L : List Int) (i : Nat) : Prop := 0 ≤ sizeF G.kinds.length L 0 (rd_T57 G.prods i).f1 → 0 ≤ rd L (rd_T57 G.prods i).f0 ∧ rd L (rd_T57 G.prods i).f0 ≤ sizeF G.kinds.length L 0 (rd_T57 G.prods i).f1
theorem size_closed {G : Gr} {L : List Int} (hC : ∀ i, i < G.prods.length → ClosedL G L i) {row : List Int} {n : Nat} (h : Siz G row n) : ∀ (p : Int) (q : Nat), 0 ≤ p → p ≤ minF q → 0 ≤ sizeF G.kinds.length L p row ∧ sizeF G.kinds.length L p row ≤ minF (q + n) := by
 induction h with
 | nil => exact fun p q h1 h2 => ⟨h1, h2⟩
 | @kind x l n hk _ ih =>
  intro p q h1 h2; simp only [sizeF, if_pos hk]; have := ih (mn (p + 1) 65537) (q + 1) (by rw [mn_le]; split <;> omega) (by rw [mn_le]; unfold minF at h2 ⊢; split <;> split <;> split at h2 <;> omega); rwa [show q + 1 + n = q + (n + 1) by omega] at this
 | @rule x l i m n hk hi hf _ _ ih1 ih2 =>
  intro p q h1 h2; obtain ⟨s0, s1⟩ := ih1 0 0 (Int.le_refl _) (minF_le 0).2.1; obtain ⟨t0, t1⟩ := hC i hi s0; rw [hf] at t0 t1; rw [Nat.zero_add] at s1; simp only [sizeF, if_neg hk]; rw [if_neg (by omega)]; have := ih2 (mn (p + rd L (x - G.kinds.length)) 65537) (q + m) (by rw [mn_le]; split <;> omega) (by
   rw [mn_le]; unfold minF at h2 s1 ⊢; split <;> split <;> split at h2 <;> split at s1 <;> omega)
  rwa [show q + m + n = q + (m + n) by omega] at this
structure LeastOk (G : Gr) (L : List Int) : Prop where
 len : L.length = G.rules.length
 bound : Bound L
 sound : SoundL G L
 least : ∀ (a n : Nat), Siz G [(G.kinds.length + a : Int)] n → 0 ≤ rd L a ∧ rd L a ≤ minF n
theorem LeastOk.of {G : Gr} {L : List Int} (hl : L.length = G.rules.length) (hb : Bound L) (hs : SoundL G L) (hC : ∀ i, i < G.prods.length → ClosedL G L i) : LeastOk G L :=
 ⟨hl, hb, hs, fun a n h => by
  obtain ⟨i, hi, hf, hr⟩ := h.one (by omega); obtain ⟨s0, s1⟩ := size_closed hC hr 0 0 (Int.le_refl _) (minF_le 0).2.1; obtain ⟨t0, t1⟩ := hC i hi s0; rw [hf, show (G.kinds.length : Int) + a - G.kinds.length = a by omega] at t0 t1; rw [Nat.zero_add] at s1; exact ⟨t0, by omega⟩⟩
def gap1 (v : Int) : Nat := if v < 0 then 65538 else v.toNat
def gapL : List Int → Nat
 | [] => 0
 | v :: l => gap1 v + gapL l
theorem gap_set : ∀ (L : List Int) (i : Nat) (v : Int), i < L.length → gap1 v + 1 ≤ gap1 (rd L i) → gapL (L.set i v) + 1 ≤ gapL L
 | [], i, v, h, _ => by simp at h
 | x :: L, 0, v, _, h => by
  simp only [List.set_cons_zero, gapL]; have h : gap1 v + 1 ≤ gap1 x := by simpa [rd] using h
  omega
 | x :: L, i + 1, v, h, h2 => by
  have h2 : gap1 v + 1 ≤ gap1 (rd L i) := by simpa [rd] using h2
  have := gap_set L i v (by simpa using h) h2; simp only [List.set_cons_succ, gapL]; omega
theorem gap_start (n : Nat) : gapL (List.replicate n (-1)) = n * 65538 := by
 induction n with
 | zero => rfl
 | succ n ih => rw [List.replicate_succ, gapL, ih, show gap1 (-1) = 65538 from rfl]; omega
structure NW (w W : World) (G : Gr) (A0 A1 A2 A3 : Option Addr) (c0 c1 c2 c3 : Nat) (v : Value) (L : List Int) : Prop where
 chk : ChkW w W G A0 A1 A2 A3 c0 c1 c2 c3
 row : kI.R 3 W (w.heap.size + 1) (fun _ => True) v L
theorem NW.go {w W W1 : World} {G : Gr} {A0 A1 A2 A3 : Option Addr} {c0 c1 c2 c3 : Nat} {v : Value} {L : List Int} (h : NW w W G A0 A1 A2 A3 c0 c1 c2 c3 v L) (hF : Fr (fun _ => False) W W1) : NW w W1 G A0 A1 A2 A3 c0 c1 c2 c3 v L := ⟨h.chk.go hF, hF.R h.row (fun _ _ => id)⟩
theorem ints_form {W : World} {B : Nat} {ok : Nat → Prop} {v : Value} {l : List Int} (h : kI.R 3 W B ok v l) (hl : 1 ≤ l.length) : ∃ g cap, v = .slice (some ⟨g, 0, none⟩) l.length cap := by
 obtain ⟨A, c, rfl⟩ := Kd.R_slice h; obtain ⟨inner, ho⟩ := Kd.R_own h; rcases ho.2 with ⟨he, _⟩ | ⟨g, cap, cur, he, _⟩
 · injection he with h1 h2 h3
   omega
 · injection he with h1 h2 h3
   exact ⟨g, c, by rw [h1]⟩
theorem NW.at {w W : World} {G : Gr} {A0 A1 A2 A3 : Option Addr} {c0 c1 c2 c3 gb cap : Nat} {L : List Int} (h : NW w W G A0 A1 A2 A3 c0 c1 c2 c3 (.slice (some ⟨gb, 0, none⟩) G.rules.length cap) L) (hl : L.length = G.rules.length) {i : Int} (h0 : 0 ≤ i) (h1 : i < G.rules.length) :
 W.cell? ⟨gb, i.toNat, none⟩ = some (.int .i64 (rd L i)) ∧ W.frozen? ⟨gb, i.toNat, none⟩ = false := by
 obtain ⟨Am, cm, em, hcm, hCm⟩ := Kd.R_reads h.row; injection em with em1 em2 em3
 subst em1; obtain ⟨adm, ea, hxm⟩ := Kd.at_int hCm i h0 (by omega); injection ea with ea
 subst ea; rw [add_plain] at hxm; obtain ⟨_, _, _, q, _, cells, hcells⟩ := (Kd.R_bound h.row).1 gb rfl; exact ⟨hxm, blk_frozen hcells i.toNat⟩
theorem NW.put {w W : World} {G : Gr} {A0 A1 A2 A3 : Option Addr} {c0 c1 c2 c3 gb cap : Nat} {L : List Int} (h : NW w W G A0 A1 A2 A3 c0 c1 c2 c3 (.slice (some ⟨gb, 0, none⟩) G.rules.length cap) L) (hl : L.length = G.rules.length) (i x : Int) :
 NW w (W.setCell ⟨gb, i.toNat, none⟩ (.int .i64 x)) G A0 A1 A2 A3 c0 c1 c2 c3 (.slice (some ⟨gb, 0, none⟩) G.rules.length cap) (L.set i.toNat x) := by
 have hb := Kd.R_base h.row gb rfl; have hr := h.row; rw [← hl] at hr; obtain ⟨h1, h2⟩ := Kd.R_put hr i x; rw [hl] at h1; have hF : Fr (fun k => k = gb) W (W.setCell ⟨gb, i.toNat, none⟩ (.int .i64 x)) := (Fr.refl (fun k => k = gb) W).set (g := gb) (o := i.toNat) _ (fun _ => rfl); exact ⟨⟨hF.blk h.chk.box (by omega), h.chk.fr.trans hF (fun k hk e => by omega)⟩, h1⟩
theorem rdI_set {L : List Int} {a : Nat} (ha : a < L.length) (x : Int) (b : Nat) : rd (L.set a x) (b : Int) = if b = a then x else rd L b := by
 simp only [rd, Int.toNat_natCast, List.getD_eq_getElem?_getD, List.getElem?_set]; by_cases e : a = b
 · subst e; simp [ha]
 · rw [if_neg e, if_neg (fun h => e h.symm)]
theorem ends {n : Nat} {L : List Int} (hl : L.length = n) (h : ∀ j : Nat, j < n → rd L (j : Int) = -1) : L = List.replicate n (-1) := by
 apply List.ext_getElem
 · simp [hl]
 · intro j h1 h2
   have := h j (by omega); simp only [rd, Int.toNat_natCast, List.getD_eq_getElem?_getD, List.getElem?_eq_getElem h1, Option.getD_some] at this; simp [this]
structure LP (G : Gr) (L : List Int) : Prop where
 len : L.length = G.rules.length
 bound : Bound L
 sound : SoundL G L
theorem rd_neg (n : Nat) (i : Int) : rd (List.replicate n (-1)) i = -1 ∨ rd (List.replicate n (-1)) i = 0 := by
 simp only [rd, List.getD_eq_getElem?_getD, List.getElem?_replicate]; split <;> simp
theorem LP.start (G : Gr) : LP G (List.replicate G.rules.length (-1)) :=
 ⟨by simp, fun i => by have := rd_neg G.rules.length i; omega, fun a ha h => by
  have : rd (List.replicate G.rules.length (-1)) (a : Int) = -1 := by simp [rd, List.getD_eq_getElem?_getD, ha]
  omega⟩
theorem LP.next {G : Gr} {L : List Int} (h : LP G L) (hP : ProdsOk G) {i : Nat} (hi : i < G.prods.length) (h0 : 0 ≤ sizeF G.kinds.length L 0 (rd_T57 G.prods i).f1) (h1 : rd L (rd_T57 G.prods i).f0 < 0 ∨ sizeF G.kinds.length L 0 (rd_T57 G.prods i).f1 < rd L (rd_T57 G.prods i).f0) :
 LP G (L.set (rd_T57 G.prods i).f0.toNat (sizeF G.kinds.length L 0 (rd_T57 G.prods i).f1)) ∧ gapL (L.set (rd_T57 G.prods i).f0.toNat (sizeF G.kinds.length L 0 (rd_T57 G.prods i).f1)) + 1 ≤ gapL L := by
 have hp := hP i hi; obtain ⟨n, hn, e⟩ := size_sound h.sound _ 0 hp.2.2.2.syms h0; change sizeF G.kinds.length L 0 _ = _ at e
 rw [Nat.zero_add] at e; have hb := minF_le n; have hl : (rd_T57 G.prods i).f0.toNat < L.length := by rw [h.len]; omega
 have ef : (((rd_T57 G.prods i).f0.toNat : Nat) : Int) = (rd_T57 G.prods i).f0 := by omega
 refine ⟨⟨by simp [h.len], fun j => ?_, fun a ha h2 => ?_⟩, gap_set L _ _ hl ?_⟩
 · by_cases hj : 0 ≤ j
   · obtain ⟨j, rfl⟩ := Int.eq_ofNat_of_zero_le hj
     rw [rdI_set hl]; split
     · omega
     · exact h.bound j
   · have : j.toNat = (0 : Nat) := by omega
     have hz := rdI_set hl (sizeF G.kinds.length L 0 (rd_T57 G.prods i).f1) 0; simp only [rd, this, Int.toNat_natCast] at hz ⊢; rw [hz]; split
     · omega
     · have := h.bound 0
       simpa [rd] using this
 · rw [rdI_set hl] at h2 ⊢
   split
   · rename_i ea
     refine ⟨n, ?_, e⟩; have := Siz.rule (G := G) (x := (G.kinds.length : Int) + a) (by omega) hi (by omega) hn .nil; simpa using this
   · rename_i ea
     rw [if_neg ea] at h2; exact h.sound a ha h2
 · rw [ef]
   have hb2 := h.bound (rd_T57 G.prods i).f0; unfold gap1; split <;> split <;> omega
def LeastsPost (w : World) (G : Gr) (e : Ending) (w' : World) : Prop := ∃ v L, e = .returned v ∧ kI.R 3 w' (w.heap.size + 1) (fun _ => True) v L ∧ LeastOk G L
set_option maxHeartbeats 4000000 in
set_option maxRecDepth 100000 in
theorem leasts_calls (w : World) (G : Gr) (A0 A1 A2 A3 : Option Addr) (c0 c1 c2 c3 : Nat) (h : GAt w G A0 A1 A2 A3 c0 c1 c2 c3) (hc : CheckOk G) :
 Calls Try.prog 45 #[.agg #[.slice A0 G.kinds.length c0, .slice A1 G.precs.length c1, .slice A2 G.rules.length c2, .slice A3 G.prods.length c3, .int .i64 G.start]] w fun e w' =>
  LeastsPost w G e w' ∧ Fr (fun _ => False) w w' := by
 have hu := Try.underlying26; have hu2 := Try.underlying57; have hm3 := Kd.C_max h.prods; have hR1 := (base_true hc.base).2.1; have hR2 := (base_true hc.base).2.2.1; have hQ2 := (base_true hc.base).2.2.2.2.2; have HG := Aside0.mk h; have HC := Aside0.mk hc; have HW := Aside0.mk (show ChkW w (w.alloc (.cells #[.slice A0 G.kinds.length c0, .slice A1 G.precs.length c1, .slice A2 G.rules.length c2, .slice A3 G.prods.length c3, .int .i64 G.start] 26)) G A0 A1 A2 A3 c0 c1 c2 c3 from ⟨blk_new w _, (Fr.refl _ w).alloc _⟩); have hws : (w.alloc (.cells #[.slice A0 G.kinds.length c0, .slice A1 G.precs.length c1, .slice A2 G.rules.length c2, .slice A3 G.prods.length c3, .int .i64 G.start] 26)).heap.size = w.heap.size + 1 := by simp only [World.size_alloc]
 clear h hc; go_enter Try.func45, Try.ntmps45
 go_upto_region 1 with fail
 generalize w.alloc (.cells #[.slice A0 G.kinds.length c0, .slice A1 G.precs.length c1, .slice A2 G.rules.length c2, .slice A3 G.prods.length c3, .int .i64 G.start] 26) = W0 at HW hws ⊢; obtain ⟨e0, e1, e2, e3, e4⟩ := HW.out.cells; go_upto_region 2 with (at_make; refine Kd.R_make kI (w0 := W0) W0.heap.size 3 rfl (N := 12) rfl 27 _ _ rfl (G.rules.length : Int) rfl rfl Try.underlying27 (.int .i64 0) 8 info3 rfl (by decide) (by omega) 0 (ok := fun _ => True) (okp := fun _ => True) rfl (fun _ hk => hk) trivial (by omega) (by omega) (Below.refl _ _) (Nat.le_refl _) ?_; intro v1 W1 h1 hB1 hg1 hb1; have HX := Aside0.mk (show NW w W1 G A0 A1 A2 A3 c0 c1 c2 c3 v1 (List.replicate G.rules.length 0) from ⟨HW.out.go (Fr.of_below hB1), by simpa [hws] using h1⟩); clear h1 hB1 hg1)
 obtain ⟨gb, cap, rfl⟩ := ints_form HX.out.row (by simp; exact hR1); simp only [List.length_replicate] at HX hb1 ⊢; clear HW e0 e1 e2 e3 e4; go_wp2_with (fail)
 go_loopw [15] (fun a W => ∃ (i : Nat) (L : List Int), a = .int .i64 i ∧ i ≤ G.rules.length ∧ Aside0 (NW w W G A0 A1 A2 A3 c0 c1 c2 c3 (.slice (some ⟨gb, 0, none⟩) G.rules.length cap) L) ∧ Aside0 (L.length = G.rules.length ∧ ∀ j : Nat, j < i → rd L (j : Int) = -1)) (fun a _ => G.rules.length - (intOf a).toNat)
 case atStart => exact ⟨0, _, rfl, Nat.zero_le _, HX, ⟨by simp, fun j hj => absurd hj (by omega)⟩⟩
 case round =>
  clear HX; obtain ⟨i, L, rfl, hi, HX, HL⟩ := hrel; by_cases hlt : i < G.rules.length
  · have HLT := Aside0.mk hlt
    obtain ⟨hx1, hx2⟩ := HX.out.at HL.out.1 (i := (i : Int)) (by omega) (by omega); have HX2 := Aside0.mk (HX.out.put HL.out.1 (i : Int) (-1)); simp only [Int.toNat_natCast] at hx1 hx2 HX2; go_wp2_with (fail)
    exact ⟨⟨i + 1, _, by go_num, HLT.out, HX2, ⟨by simp [HL.out.1], fun j hj => by
     have := HL.out.1; have := HLT.out; rw [rdI_set (by omega)]; split
     · rfl
     · exact HL.out.2 j (by omega)⟩⟩, by have := HLT.out; simp [intOf]; omega⟩
  · obtain rfl : i = G.rules.length := by omega
    have HE := Aside0.mk (ends HL.out.1 HL.out.2); have HX1 := Aside0.mk (show NW w wr G A0 A1 A2 A3 c0 c1 c2 c3 (.slice (some ⟨gb, 0, none⟩) G.rules.length cap) (List.replicate G.rules.length (-1)) by rw [← HE.out]; exact HX.out); have HZ := Aside0.mk (LP.start G); have hgz := gap_start G.rules.length; clear HX HL HE; go_wp2_with (fail)
    go_loopg [5] (G.rules.length * 65538 + 1) (fun k a W => ∃ (sm : Bool) (L : List Int), a = .bool sm ∧ gapL L + (if sm = true then 1 else 0) ≤ k ∧ Aside0 (NW w W G A0 A1 A2 A3 c0 c1 c2 c3 (.slice (some ⟨gb, 0, none⟩) G.rules.length cap) L) ∧ Aside0 (LP G L) ∧ Aside0 (sm = false → ∀ i, i < G.prods.length → ClosedL G L i))
    case atStart => exact ⟨true, _, rfl, by rw [hgz]; simp, HX1, HZ, ⟨fun h => absurd h (by decide)⟩⟩
    case round =>
     clear HX1 HZ hgz; obtain ⟨sm, L, rfl, hk, HX, HZ, HCL⟩ := hrel; cases sm with
     | false =>
      have HE := Aside0.mk (LeastOk.of HZ.out.len HZ.out.bound HZ.out.sound (HCL.out rfl)); go_wp2_with (fail)
      go_ret
      exact ⟨⟨_, _, rfl, HX.out.row, HE.out⟩, HX.out.chk.fr⟩
     | true =>
      simp only [if_pos] at hk; obtain ⟨e0, e1, e2, e3, e4⟩ := HX.out.chk.cells; go_wp2_with (fail)
      go_loopw [26, 5] (fun a b W => ∃ (i : Nat) (sm : Bool) (L' : List Int), a = .int .i64 i ∧ b = .bool sm ∧ i ≤ G.prods.length ∧ gapL L' + (if sm = true then 1 else 0) ≤ gapL L ∧ Aside0 (NW w W G A0 A1 A2 A3 c0 c1 c2 c3 (.slice (some ⟨gb, 0, none⟩) G.rules.length cap) L') ∧ Aside0 (LP G L') ∧ Aside0 (sm = false → ∀ j, j < i → ClosedL G L' j)) (fun a _ _ => G.prods.length - (intOf a).toNat)
      case atStart => exact ⟨0, false, L, rfl, rfl, Nat.zero_le _, by simp, HX, HZ, ⟨fun _ j hj => absurd hj (by omega)⟩⟩
      case round =>
       clear HX HZ HCL e0 e1 e2 e3 e4; obtain ⟨i, sm, L', rfl, rfl, hi, hf, HX, HZ, HCL⟩ := hrel; by_cases hlt : i < G.prods.length
       · have HLT := Aside0.mk hlt
         obtain ⟨ad, B1, d1, B6, d6, rfl, x0, x1, x2, x3, x4, x5, x6, hl1, hC1, hl6, hC6⟩ := at_T57 HG.out.prods (i : Int) (by omega) (by omega); simp only [Int.toNat_natCast] at x0 x1 x2 x3 x4 x5 x6; have y0 := HX.out.chk.fr.cell x0 id; have y1 := HX.out.chk.fr.cell x1 id; have y2 := HX.out.chk.fr.cell x2 id; have y3 := HX.out.chk.fr.cell x3 id; have y4 := HX.out.chk.fr.cell x4 id; have y5 := HX.out.chk.fr.cell x5 id; have y6 := HX.out.chk.fr.cell x6 id; have HC1 := Aside0.mk hC1; have HL1 := Aside0.mk hl1; have HPI := Aside0.mk (HC.out.prodsOk i hlt); clear x0 x1 x2 x3 x4 x5 x6 hC1 hC6 hl6 hl1; go_upto_region 13 with fail
         have HXA := Aside0.mk (HX.out.go ((Fr.refl (fun _ => False) wr).alloc (.cells #[.int .i64 (rd_T57 G.prods (i : Int)).f0, .slice B1 (rd_T57 G.prods (i : Int)).f1.length d1, .int .i64 (rd_T57 G.prods (i : Int)).f2, .int .i64 (rd_T57 G.prods (i : Int)).f3.f0, .int .i64 (rd_T57 G.prods (i : Int)).f3.f1, .string (rd_T57 G.prods (i : Int)).f3.f2, .slice B6 (rd_T57 G.prods (i : Int)).f3.f3.length d6] 57))); have HPB := Aside0.mk (blk_new wr (.cells #[.int .i64 (rd_T57 G.prods (i : Int)).f0, .slice B1 (rd_T57 G.prods (i : Int)).f1.length d1, .int .i64 (rd_T57 G.prods (i : Int)).f2, .int .i64 (rd_T57 G.prods (i : Int)).f3.f0, .int .i64 (rd_T57 G.prods (i : Int)).f3.f1, .string (rd_T57 G.prods (i : Int)).f3.f2, .slice B6 (rd_T57 G.prods (i : Int)).f3.f3.length d6] 57)); have hgq : gb < wr.heap.size := ((Kd.R_bound HX.out.row).1 gb rfl).2.2.1; generalize wr.alloc (.cells #[.int .i64 (rd_T57 G.prods (i : Int)).f0, .slice B1 (rd_T57 G.prods (i : Int)).f1.length d1, .int .i64 (rd_T57 G.prods (i : Int)).f2, .int .i64 (rd_T57 G.prods (i : Int)).f3.f0, .int .i64 (rd_T57 G.prods (i : Int)).f3.f1, .string (rd_T57 G.prods (i : Int)).f3.f2, .slice B6 (rd_T57 G.prods (i : Int)).f3.f3.length d6] 57) = W5 at HXA HPB ⊢; generalize wr.heap.size = q at hgq HPB ⊢; clear y0 y1 y2 y3 y4 y5 y6 HX; have z1 := (blk_cell HPB.out 1).trans (show _ = some (Value.slice B1 (rd_T57 G.prods (i : Int)).f1.length d1) from rfl); obtain ⟨e0, e1, e2, e3, e4⟩ := HXA.out.chk.cells; have HSC := Aside0.mk (size_calls W5 G A0 A1 A2 (some ad) c0 c1 c2 c3 (HG.out.go HXA.out.chk.fr) (some ⟨gb, 0, none⟩) B1 cap d1 L' (rd_T57 G.prods (i : Int)).f1 HC.out.kinds.max hR2 (by
          obtain ⟨Am, cm, em, hcm, hCm⟩ := Kd.R_reads HXA.out.row; injection em with em1 em2 em3
          subst em1; exact hCm) (by
          obtain ⟨Am, cm, em, hcm, hCm⟩ := Kd.R_reads HXA.out.row; injection em with em1 em2 em3
          subst em3; exact hcm) (Kd.C_below HC1.out HXA.out.chk.fr.to_below) HL1.out HZ.out.len HZ.out.bound HPI.out.2.2.2 (by have h3 := HPI.out.2.2.1; rw [show rd_T57 G.prods i = rd_T57 G.prods (i : Int) from rfl] at h3; omega))
         rw [HZ.out.len] at HSC; go_wp2_with (fail)
         refine HSC.out.mono ?_; rintro e W6 ⟨rfl, hF6⟩; have HX6 := Aside0.mk (HXA.out.go hF6); have HPB6 := Aside0.mk (hF6.blk HPB.out id); have h00 := HPI.out.1; have h01 := HPI.out.2.1; have HNX := Aside0.mk (fun h1 h2 => HZ.out.next HC.out.prodsOk HLT.out h1 h2); have HNC := Aside0.mk (show ¬ (0 ≤ sizeF G.kinds.length L' 0 (rd_T57 G.prods i).f1 ∧ (rd L' (rd_T57 G.prods i).f0 < 0 ∨ sizeF G.kinds.length L' 0 (rd_T57 G.prods i).f1 < rd L' (rd_T57 G.prods i).f0)) → ClosedL G L' i from fun h h0 => ⟨by omega, by omega⟩); have HZB := Aside0.mk HZ.out.len; rw [show rd_T57 G.prods i = rd_T57 G.prods (i : Int) from rfl] at HNX HNC; obtain ⟨hxl, hfz⟩ := HX6.out.at HZB.out h00 h01; have z0 := (blk_cell HPB6.out 0).trans (show _ = some (Value.int .i64 (rd_T57 G.prods (i : Int)).f0) from rfl); clear HSC HXA HPB z1 hF6 e0 e1 e2 e3 e4; replace HNX : Aside0 (0 ≤ sizeF G.kinds.length L' 0 (rd_T57 G.prods (i : Int)).f1 → (rd L' (rd_T57 G.prods (i : Int)).f0 < 0 ∨ sizeF G.kinds.length L' 0 (rd_T57 G.prods (i : Int)).f1 < rd L' (rd_T57 G.prods (i : Int)).f0) → LP G (L'.set (rd_T57 G.prods (i : Int)).f0.toNat (sizeF G.kinds.length L' 0 (rd_T57 G.prods (i : Int)).f1)) ∧ gapL (L'.set (rd_T57 G.prods (i : Int)).f0.toNat (sizeF G.kinds.length L' 0 (rd_T57 G.prods (i : Int)).f1)) + 1 ≤ gapL L') := HNX
         generalize sizeF G.kinds.length L' 0 (rd_T57 G.prods (i : Int)).f1 = sz at HNX HNC ⊢; replace z0 : W6.cell? ⟨q, 0, none⟩ = some (Value.int .i64 (rd_T57 G.prods (i : Int)).f0) := z0
         change 0 ≤ (rd_T57 G.prods (i : Int)).f0 at h00
         change (rd_T57 G.prods (i : Int)).f0 < _ at h01
         replace hxl : W6.cell? ⟨gb, (rd_T57 G.prods (i : Int)).f0.toNat, none⟩ = some (.int .i64 (rd L' (rd_T57 G.prods (i : Int)).f0)) := hxl
         replace hfz : W6.frozen? ⟨gb, (rd_T57 G.prods (i : Int)).f0.toNat, none⟩ = false := hfz
         generalize (rd_T57 G.prods (i : Int)).f0 = lf at h00 h01 HNX HNC hxl hfz z0; by_cases hc2 : 0 ≤ sz ∧ (rd L' lf < 0 ∨ sz < rd L' lf)
         · obtain ⟨hs0, hs1⟩ := hc2
           obtain ⟨hN1, hN2⟩ := HNX.out hs0 hs1; have HN1 := Aside0.mk hN1; have HX7 := Aside0.mk (HX6.out.put HZB.out lf sz); have hf7 : gapL (L'.set lf.toNat sz) + (if true = true then 1 else 0) ≤ gapL L := by
            rw [if_pos rfl]; split at hf <;> omega
           clear HNC HNX hN1 hN2; by_cases hr0 : rd L' lf < 0
           · go_wp2_with (fail)
             exact ⟨⟨i + 1, true, _, by go_num, rfl, HLT.out, hf7, HX7, HN1, ⟨fun e => absurd e (by decide)⟩⟩, by have := HLT.out; simp [intOf]; omega⟩
           · have hr1 : sz < rd L' lf := hs1.resolve_left hr0
             go_wp2_with (fail)
             exact ⟨⟨i + 1, true, _, by go_num, rfl, HLT.out, hf7, HX7, HN1, ⟨fun e => absurd e (by decide)⟩⟩, by have := HLT.out; simp [intOf]; omega⟩
         · have hn2 := HNC.out hc2
           have HCL2 := Aside0.mk (show sm = false → ∀ j, j < i + 1 → ClosedL G L' j from fun e j hj => by
            by_cases ej : j = i
            · rw [ej]; exact hn2
            · exact HCL.out e j (by omega))
           clear HNC HNX hn2; by_cases hs0 : 0 ≤ sz
           · have hr0 : ¬ rd L' lf < 0 := fun h => hc2 ⟨hs0, .inl h⟩
             have hr1 : ¬ sz < rd L' lf := fun h => hc2 ⟨hs0, .inr h⟩
             go_wp2_with (fail)
             exact ⟨⟨i + 1, sm, _, by go_num, rfl, HLT.out, hf, HX6, HZ, HCL2⟩, by have := HLT.out; simp [intOf]; omega⟩
           · go_wp2_with (fail)
             exact ⟨⟨i + 1, sm, _, by go_num, rfl, HLT.out, hf, HX6, HZ, HCL2⟩, by have := HLT.out; simp [intOf]; omega⟩
       · obtain rfl : i = G.prods.length := by omega
         go_wp2_with (fail)
         go_roundg (gapL L)
         case measure => omega
         case rel => exact ⟨sm, L', rfl, hf, HX, HZ, HCL⟩
def LeastPost (G : Gr) (rule : Int) (e : Ending) : Prop :=
 ∃ n sm r, e = .returned (.tuple #[.int .i64 n, .bool sm, .int .i64 r]) ∧ (r = 0 ↔ CheckOk G ∧ 0 ≤ rule ∧ rule < G.rules.length) ∧ (r ≠ 0 → n = 0 ∧ sm = false ∧ (CheckOk G → r = 1) ∧ (¬ CheckOk G → r = 130)) ∧ (r = 0 → ∃ L, LeastOk G L ∧ n = mx (rd L rule) 0 ∧ sm = decide (0 ≤ rd L rule))
set_option maxHeartbeats 4000000 in
set_option maxRecDepth 100000 in
theorem least_calls (w : World) (G : Gr) (A0 A1 A2 A3 : Option Addr) (c0 c1 c2 c3 : Nat) (h : GAt w G A0 A1 A2 A3 c0 c1 c2 c3) (rule : Int) :
 Calls Try.prog 15 #[.agg #[.slice A0 G.kinds.length c0, .slice A1 G.precs.length c1, .slice A2 G.rules.length c2, .slice A3 G.prods.length c3, .int .i64 G.start], .int .i64 rule] w fun e w' =>
  LeastPost G rule e ∧ Fr (fun _ => False) w w' := by
 have hu := Try.underlying26; have hm2 := Kd.C_max h.rules; have HG := Aside0.mk h; have HW := Aside0.mk (show ChkW w (w.alloc (.cells #[.slice A0 G.kinds.length c0, .slice A1 G.precs.length c1, .slice A2 G.rules.length c2, .slice A3 G.prods.length c3, .int .i64 G.start] 26)) G A0 A1 A2 A3 c0 c1 c2 c3 from ⟨blk_new w _, (Fr.refl _ w).alloc _⟩); clear h; go_enter Try.func15, Try.ntmps15
 go_upto_region 1 with fail
 generalize w.alloc (.cells #[.slice A0 G.kinds.length c0, .slice A1 G.precs.length c1, .slice A2 G.rules.length c2, .slice A3 G.prods.length c3, .int .i64 G.start] 26) = W0 at HW ⊢; obtain ⟨e0, e1, e2, e3, e4⟩ := HW.out.cells; go_wp2_with (fail)
 refine (check_calls _ G A0 A1 A2 A3 c0 c1 c2 c3 (HG.out.go HW.out.fr)).mono ?_; rintro e W1 ⟨⟨r, rfl, hr1, hr2⟩, hF⟩; have HW1 := Aside0.mk (HW.out.go hF); clear HW hF e0 e1 e2 e3 e4; by_cases hr0 : r = 0
 · subst hr0
   have HC := Aside0.mk (hr1.1 rfl); clear hr1 hr2; obtain ⟨e0, e1, e2, e3, e4⟩ := HW1.out.cells; by_cases x1 : rule < 0
   · have HE := Aside0.mk (show LeastPost G rule (.returned (.tuple #[.int .i64 0, .bool false, .int .i64 1])) from ⟨0, false, 1, rfl, ⟨fun h => absurd h (by decide), fun h => by omega⟩, fun _ => ⟨rfl, rfl, fun _ => rfl, fun h => absurd HC.out h⟩, fun h => absurd h (by decide)⟩)
     go_wp2_with (fail)
     go_ret3
     exact ⟨HE.out, HW1.out.fr⟩
   by_cases x2 : (G.rules.length : Int) ≤ rule
   · have HE := Aside0.mk (show LeastPost G rule (.returned (.tuple #[.int .i64 0, .bool false, .int .i64 1])) from ⟨0, false, 1, rfl, ⟨fun h => absurd h (by decide), fun h => by omega⟩, fun _ => ⟨rfl, rfl, fun _ => rfl, fun h => absurd HC.out h⟩, fun h => absurd h (by decide)⟩)
     go_wp2_with (fail)
     go_ret3
     exact ⟨HE.out, HW1.out.fr⟩
   have h0 : 0 ≤ rule := by omega
   have h1 : rule < G.rules.length := by omega
   go_wp2_with (fail)
   refine (leasts_calls _ G A0 A1 A2 A3 c0 c1 c2 c3 (HG.out.go HW1.out.fr) HC.out).mono ?_; rintro e W2 ⟨⟨v, L, rfl, hR, hL⟩, hF⟩; have HF2 := Aside0.mk (HW1.out.fr.trans hF (fun _ _ h => h)); have hln := hL.len; obtain ⟨gb, cap, rfl⟩ := ints_form hR (by omega); obtain ⟨Am, cm, em, hcm, hCm⟩ := Kd.R_reads hR; injection em with em1 em2 em3
   subst em1; obtain ⟨adm, ea, hxm⟩ := Kd.at_int hCm rule h0 (by omega); injection ea with ea
   subst ea; rw [add_plain] at hxm; rw [hln]; have HE := Aside0.mk (show ∀ (n : Int) (sm : Bool), n = mx (rd L rule) 0 → sm = decide (0 ≤ rd L rule) → LeastPost G rule (.returned (.tuple #[.int .i64 n, .bool sm, .int .i64 0])) from fun n sm en es => ⟨n, sm, 0, rfl, ⟨fun _ => ⟨HC.out, h0, h1⟩, fun _ => rfl⟩, fun h => absurd rfl h, fun _ => ⟨L, hL, en, es⟩⟩); clear hL hCm hcm em2 em3 hR hF HW1 hln e0 e1 e2 e3 e4; generalize rd L rule = z at HE hxm; by_cases hz : 0 ≤ z
   · go_wp2_with (fail)
     go_ret3
     exact ⟨HE.out _ _ (by unfold mx; split <;> omega) (decide_eq_true hz).symm, HF2.out⟩
   · go_wp2_with (fail)
     go_ret3
     exact ⟨HE.out _ _ (by unfold mx; split <;> omega) rfl, HF2.out⟩
 · have HE := Aside0.mk (show LeastPost G rule (.returned (.tuple #[.int .i64 0, .bool false, .int .i64 r])) from ⟨0, false, r, rfl, ⟨fun h => absurd h hr0, fun h => absurd (hr1.2 h.1) hr0⟩, fun _ => ⟨rfl, rfl, fun h => absurd (hr1.2 h) hr0, fun _ => hr2.resolve_left hr0⟩, fun h => absurd h hr0⟩)
   clear hr1 hr2; go_wp2_with (fail)
   go_ret3
   exact ⟨HE.out, HW1.out.fr⟩
end Go.Proofs.Ytdngobjcdajogaa.Gram
