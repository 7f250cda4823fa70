/-
The reference's sets: with, walked.
-/
import Derived.Test.YtpjhflimaiaokaaDoorRA
import Derived.Laws.Rows
namespace Go.Proofs.YtpjhflimaiaokaaDoor.RSet
open Go.RowKit Go.Proofs.YtpjhflimaiaokaaDoorW.PrintWords Go.Proofs.YtpjhflimaiaokaaDoorW.PrintLast Go.Proofs.YtpjhflimaiaokaaDoorW.PrintMore Go.Proofs.YtpjhflimaiaokaaDoor.Fr Go.Proofs.YtpjhflimaiaokaaDoor.Sets Go.Proofs.YtpjhflimaiaokaaDoor.SetW

/-- The reference's set of the numbers us, as it stands with us in its field; its row lies at B or above. -/
abbrev RS (w : World) (B : Nat) (v : Value) (us : List Int) : Prop := kI.R 3 w B (fun _ => True) v us
theorem RS.fr {ok : Nat → Prop} {w w1 : World} {B : Nat} {v : Value} {us : List Int} (h : kI.R 3 w B ok v us) (hF : Fr (fun _ => False) w w1) : kI.R 3 w1 B ok v us := hF.R h (fun _ _ => id)
theorem rset_info : (Tryd.prog.info? 40).map (·.size) = some 1 := by kernel_rfl
/-- The numbers us with n. -/
inductive With (us : List Int) (n : Int) : List Int → Prop where
  | there (h : n ∈ us) : With us n us
  | new (k : Nat) (h : ¬ n ∈ us) (hs : Stands us n k) : With us n (insAt us k n)
def WithPost (ok : Nat → Prop) (w : World) (B : Nat) (us : List Int) (n : Int) (e : Ending) (w' : World) : Prop := ∃ v us', e = .returned (.agg #[v]) ∧ With us n us' ∧ kI.R 3 w' B ok v us' ∧ Fr (fun _ => False) w w'
structure WithW (w : World) (A : Option Addr) (c : Nat) (us : List Int) (n : Int) (k : Nat) (v : Value) (W : World) : Prop where
  row : kI.R 3 W (w.heap.size + 1) (fun _ => True) v (us.take k)
  box : W.heap[w.heap.size]? = some (.cells #[.slice A us.length c] 40 (0, 0))
  res : W.heap[w.heap.size + 1]? = some (.cells #[.slice none 0 0] 40 (0, 0))
  fr : Fr (fun _ => False) w W
  lt : ∀ j : Nat, j < k → rd us j < n

theorem WithW.keep {w w1 : World} {A A1 : Option Addr} {c c1 : Nat} {us : List Int} {n : Int} {k : Nat} {W : World} (h : WithW w A c us n k (.slice A1 k c1) W) (hg : W.grownBy w1 (Value.slice A1 k c1).ownBlock) :
    w1.heap[w.heap.size]? = some (.cells #[.slice A us.length c] 40 (0, 0)) ∧ w1.heap[w.heap.size + 1]? = some (.cells #[.slice none 0 0] 40 (0, 0)) ∧ Fr (fun _ => False) w w1 :=
  ⟨blk_grown h.box hg (Kd.R_ne h.row h.box (by decide)), blk_grown h.res hg (Kd.R_ne h.row h.res (by decide)), h.fr.grown hg (fun q hq hlt => by have := Kd.R_base h.row q hq; omega)⟩
theorem WithW.next {w w1 : World} {A A1 A2 : Option Addr} {c c1 c2 : Nat} {us : List Int} {n : Int} {k : Nat} {W : World} (h : WithW w A c us n k (.slice A1 k c1) W) (hg : W.grownBy w1 (Value.slice A1 k c1).ownBlock) (hk : k < us.length)
    (hR : kI.R 3 w1 (w.heap.size + 1) (fun _ => True) (.slice A2 (us.take k ++ [rd us k]).length c2) (us.take k ++ [rd us k])) (hn : rd us k < n) : WithW w A c us n (k + 1) (.slice A2 (k + 1) c2) w1 := by
  have e : us.take k ++ [rd us k] = us.take (k + 1) := by rw [List.take_add_one]; simp [rd, List.getD_eq_getElem?_getD, hk]
  have e2 : (us.take k ++ [rd us k]).length = k + 1 := by simp; omega
  rw [e2, e] at hR
  obtain ⟨h1, h2, h3⟩ := h.keep hg
  exact ⟨hR, h1, h2, h3, fun j hj => by
    by_cases ej : j = k
    · rw [ej]; exact hn
    · exact h.lt j (by omega)⟩
theorem WithW.stands {w : World} {A : Option Addr} {c : Nat} {us : List Int} {n : Int} {k : Nat} {v : Value} {W : World} (h : WithW w A c us n k v W) (hr : Rising us) (hk : k ≤ us.length) (hs : k < us.length → n ≤ rd us k) : Stands us n k := by
  refine ⟨by omega, by omega, fun j h0 hj => ?_, fun j hj hl => ?_⟩
  · have := h.lt j.toNat (by omega)
    rwa [Int.toNat_of_nonneg h0] at this
  · have h1 := hs (by omega)
    by_cases e : j = k
    · rw [e]; exact h1
    · have := hr k j (by omega) (by omega) hl
      omega

theorem RS.form {ok : Nat → Prop} {w : World} {B : Nat} {A : Option Addr} {n c : Nat} {us : List Int} (h : kI.R 3 w B ok (.slice A n c) us) : (A = none ∧ n = 0 ∧ c = 0) ∨ ∃ g, A = some ⟨g, 0, none⟩ := by
  obtain ⟨inner, ho⟩ := Kd.R_own h
  rcases ho.2 with ⟨he, _⟩ | ⟨g, cap, cur, he, _⟩
  · injection he with h1 h2 h3
    exact .inl ⟨h1, h2, h3⟩
  · injection he with h1 _ _
    exact .inr ⟨g, h1⟩
/-- The row so far with n behind it. -/
structure WithL (w : World) (A : Option Addr) (c : Nat) (us : List Int) (n : Int) (k : Nat) (v : Value) (W : World) : Prop where
  row : kI.R 3 W (w.heap.size + 1) (fun _ => True) v (us.take k ++ [n])
  box : W.heap[w.heap.size]? = some (.cells #[.slice A us.length c] 40 (0, 0))
  res : W.heap[w.heap.size + 1]? = some (.cells #[.slice none 0 0] 40 (0, 0))
  fr : Fr (fun _ => False) w W
theorem WithW.last {w w1 : World} {A A1 A2 : Option Addr} {c c1 c2 : Nat} {us : List Int} {n : Int} {k : Nat} {W : World} (h : WithW w A c us n k (.slice A1 k c1) W) (hg : W.grownBy w1 (Value.slice A1 k c1).ownBlock) (hk : k ≤ us.length)
    (hR : kI.R 3 w1 (w.heap.size + 1) (fun _ => True) (.slice A2 (us.take k ++ [n]).length c2) (us.take k ++ [n])) : WithL w A c us n k (.slice A2 (k + 1) c2) w1 := by
  have e2 : (us.take k ++ [n]).length = k + 1 := by simp; omega
  rw [e2] at hR
  obtain ⟨h1, h2, h3⟩ := h.keep hg
  exact ⟨hR, h1, h2, h3⟩
theorem WithL.done {ok : Nat → Prop} {w w1 : World} {A A2 A3 : Option Addr} {B c c2 c3 m : Nat} {us : List Int} {n : Int} {k : Nat} {W : World} (h : WithL w A c us n k (.slice A2 (k + 1) c2) W) (hg : W.grownBy w1 (Value.slice A2 (k + 1) c2).ownBlock)
    (hR : kI.R 3 w1 (w.heap.size + 1) (fun _ => True) (.slice A3 m c3) (us.take k ++ [n] ++ us.drop k)) (hB : B ≤ w.heap.size) (hin : ¬ n ∈ us) (hs : Stands us n k) (hok : ∀ k, w.heap.size ≤ k → ok k) :
    w1.heap[w.heap.size + 1]? = some (.cells #[.slice none 0 0] 40 (0, 0)) ∧
    WithPost ok w B us n (.returned (.agg #[.slice A3 m c3])) (w1.setCell ⟨w.heap.size + 1, 0, none⟩ (.slice A3 m c3)) := by
  have hres := blk_grown h.res hg (Kd.R_ne h.row h.res (by decide))
  refine ⟨hres, _, _, rfl, .new k hin hs, ?_, (h.fr.grown hg (fun q hq hlt => by have := Kd.R_base h.row q hq; omega)).set _ (fun hh => by omega)⟩
  refine Kd.R_lower (Kd.R_mono (Kd.R_bound (Kd.R_set (show kI.R 3 w1 (w.heap.size + 1) (fun _ => True) (.slice A3 m c3) (insAt us k n) from ?_) hres (by intro q hq; simp only [List.mem_cons] at hq; rcases hq with rfl | hq; decide; exact absurd hq (by simp [kI, Kd.int, Kd.scalar])) 0 _)) (fun k hk => hok k (by have := hk.2.1; omega))) (by omega)
  simpa [insAt] using hR

set_option maxRecDepth 100000 in
set_option maxHeartbeats 1000000 in
theorem rwith_calls {ok : Nat → Prop} (w : World) (B : Nat) (v : Value) (us : List Int) (n : Int) (h : kI.R 3 w B ok v us) (hB : B ≤ w.heap.size) (hr : Rising us) (hl : us.length ≤ 1048576) (hok : ∀ k, w.heap.size ≤ k → ok k) :
    Calls Tryd.prog 38 #[.agg #[v], .int .i64 n] w (WithPost ok w B us n) := by
  obtain ⟨A, c, rfl, hlc, hC⟩ := Kd.R_reads h
  have hu := Tryd.underlying40
  have HH := Aside0.mk h
  have HC := Aside0.mk hC
  have HR := Aside0.mk hr
  have HOK := Aside0.mk hok
  clear h hC hr hok
  go_enter Tryd.func38, Tryd.ntmps38
  go_wp2_with (fail)
  refine (rhas_calls _ us A c n (Kd.C_alloc (Kd.C_alloc HC.out _) _)).mono ?_
  rintro e W1 ⟨rfl, hF1⟩
  have hb1 := hF1.blk (blk_alloc (blk_new w (.cells #[.slice A us.length c] 40)) (.cells #[.slice none 0 0] 40)) id
  have hb2 := hF1.blk (blk_new (w.alloc (.cells #[.slice A us.length c] 40)) (.cells #[.slice none 0 0] 40)) id
  have HF1 := Aside0.mk (((Fr.refl (fun _ => False) w).alloc (.cells #[.slice A us.length c] 40)).alloc (.cells #[.slice none 0 0] 40) |>.trans hF1 (fun _ _ hf => hf))
  simp only [World.size_alloc] at hb2
  have hc1 : W1.cell? ⟨w.heap.size, 0, none⟩ = some (.slice A us.length c) := (blk_cell hb1 0).trans rfl
  have hc2 : W1.cell? ⟨w.heap.size + 1, 0, none⟩ = some (.slice none 0 0) := (blk_cell hb2 0).trans rfl
  have hf2 := blk_frozen hb2 0
  have HB1 := Aside0.mk hb1
  have HB2 := Aside0.mk hb2
  clear hF1 hb1 hb2
  by_cases hin : n ∈ us
  · have HI := Aside0.mk hin
    rw [decide_eq_true hin]
    clear hin
    go_wp2_with (fail)
    exact bodyPost_ret (results_cell_row rfl _ _ (w.heap.size + 1) 40 #[.slice A us.length c] (0, 0) _ rfl (blk_put HB2.out 0 _ rfl) hu rfl rset_info) rfl
      ⟨_, _, rfl, .there HI.out, Kd.R_set (RS.fr HH.out HF1.out) HB2.out (by intro q hq; simp only [List.mem_cons] at hq; rcases hq with rfl | hq; decide; exact absurd hq (by simp [kI, Kd.int, Kd.scalar])) 0 _, HF1.out.set _ (fun hh => by omega)⟩
  · have HI := Aside0.mk hin
    rw [decide_eq_false hin]
    clear hin
    go_wp2_with (fail)
    have HW := Aside0.mk (show WithW w A c us n 0 (.slice none 0 0) W1 from ⟨by simpa using Kd.R_nil _ _ _ _ _, HB1.out, HB2.out, HF1.out, fun j hj => by omega⟩)
    go_loopw [5, 6] (fun a b W => ∃ (k : Nat) (A1 : Option Addr) (c1 : Nat), a = .slice A1 k c1 ∧ b = .int .i64 k ∧ k ≤ us.length ∧ Aside0 (WithW w A c us n k (.slice A1 k c1) W)) (fun _ b _ => us.length - (intOf b).toNat)
    case atStart => exact ⟨0, none, 0, rfl, rfl, Nat.zero_le _, HW⟩
    case round =>
      clear hc1 hc2 hf2 HB1 HB2 HF1 HW
      obtain ⟨k, A1, c1, rfl, rfl, hk, HL⟩ := hrel
      have hc1 : wr.cell? ⟨w.heap.size, 0, none⟩ = some (.slice A us.length c) := (blk_cell HL.out.box 0).trans rfl
      have hc2 : wr.cell? ⟨w.heap.size + 1, 0, none⟩ = some (.slice none 0 0) := (blk_cell HL.out.res 0).trans rfl
      have hf2 := blk_frozen HL.out.res 0
      have hsz : w.heap.size + 1 ≤ wr.heap.size := by have := blk_lt HL.out.res; omega
      have HCW := Aside0.mk (HL.out.fr.C (S := fun _ => False) 0 HC.out (fun _ _ _ => id))
      have htk : (us.take k).length = k := by simp; omega
      have HTK := Lib.hid htk
      have hl2 : (us.take k).length ≤ 4194304 := by omega
      clear htk
      by_cases hlt : k < us.length
      · obtain ⟨ad, rfl, hx⟩ := Kd.at_int HCW.out (k : Int) (by omega) (by omega)
        simp only [Int.toNat_natCast] at hx
        by_cases hn : rd us (k : Int) < n
        · have HTK2 := Lib.hid (show us.take k ++ [rd us (k : Int)] = us.take (k + 1) by rw [List.take_add_one]; simp [rd, List.getD_eq_getElem?_getD, hlt])
          go_wp2_with (at_builtin; refine app_int (w.heap.size + 1) rfl _ _ rfl (.slice A1 k c1) (us.take k) (rd us (k : Int)) rfl rfl HL.out.row hsz hl2 ?_; intro v2 w2 h1 h2 _; obtain ⟨A2, c2, rfl⟩ := Kd.R_slice h1; have HQ := Aside0.mk (HL.out.next h2 hlt h1 hn); clear h1 h2)
          exact ⟨⟨k + 1, A2, c2, by first | rfl | simp, by simp, by omega, HQ⟩, by show us.length - ((k : Int) + 1).toNat < us.length - (k : Int).toNat; omega⟩
        · have HST := Aside0.mk (HL.out.stands HR.out hk (fun _ => Int.not_lt.mp hn))
          have hl3 : (us.take k ++ [n]).length + (us.length - k) ≤ 4194304 := by simp; omega
          by_cases hck : c = k
          · omega
          · have HCD := Aside0.mk (show kI.C w (some (ad.add k)) (us.length - k) (us.drop k) by have := Kd.C_drop (m := k) (c := c) HC.out (by omega) hlc; simpa [hck, kI, Kd.int, Kd.scalar] using this)
            go_wp2_with (at_builtin; first | (refine app_int (w.heap.size + 1) rfl _ _ rfl (.slice A1 k c1) (us.take k) n rfl rfl HL.out.row hsz hl2 ?_; intro v2 w2 h1 h2 _; obtain ⟨A2, c2, rfl⟩ := Kd.R_slice h1; have HX := Aside0.mk (HL.out.last h2 hk h1); have hx1 := (blk_cell HX.out.box 0).trans (show _ = some (Value.slice (some ad) us.length c) from rfl); have hx2 := (blk_cell HX.out.res 0).trans (show _ = some (Value.slice none 0 0) from rfl); have hxf := blk_frozen HX.out.res 0; have hsz2 : w.heap.size + 1 ≤ w2.heap.size := by have := blk_lt HX.out.res; omega) | (refine app_ints (w.heap.size + 1) rfl _ _ rfl (.slice A2 (k + 1) c2) (us.take k ++ [n]) (us.drop k) (some (ad.add k)) (us.length - k) (c - k) rfl rfl HX.out.row (HX.out.fr.C (S := fun _ => False) 0 HCD.out (fun _ _ _ => id)) hsz2 hl3 ?_; intro v3 w3 h3 h4 _; obtain ⟨A3, c3, rfl⟩ := Kd.R_slice h3; have HD := Aside0.mk (HX.out.done h4 h3 hB HI.out HST.out HOK.out); have hx3 := (blk_cell HD.out.1 0).trans (show _ = some (Value.slice none 0 0) from rfl); have hxf3 := blk_frozen HD.out.1 0))
            have e : (us.take k ++ [n] ++ us.drop k).length = k + (us.length - k + 1) := by simp; omega
            have HE := HD.out
            rw [e] at HE
            exact bodyPost_ret (results_cell_row rfl _ _ (w.heap.size + 1) 40 #[.slice A3 (k + (us.length - k + 1)) c3] (0, 0) _ rfl (blk_put HE.1 0 _ rfl) hu rfl rset_info) rfl HE.2
      · have HST := Aside0.mk (HL.out.stands HR.out hk (fun hh => absurd hh hlt))
        have hl3 : (us.take k ++ [n]).length + (us.length - k) ≤ 4194304 := by simp; omega
        rcases RS.form HH.out with ⟨rfl, hn0, rfl⟩ | ⟨g, rfl⟩
        · obtain rfl : us = [] := List.eq_nil_of_length_eq_zero hn0
          obtain rfl : k = 0 := Nat.le_zero.1 hk
          have HCD := Aside0.mk (show kI.C w none 0 [] from HC.out)
          go_wp2_with (at_builtin; first | (refine app_int (w.heap.size + 1) rfl _ _ rfl (.slice A1 0 c1) ([]) n rfl rfl HL.out.row hsz hl2 ?_; intro v2 w2 h1 h2 _; obtain ⟨A2, c2, rfl⟩ := Kd.R_slice h1; have HX := Aside0.mk (HL.out.last h2 hk h1); have hx1 := (blk_cell HX.out.box 0).trans (show _ = some (Value.slice none 0 0) from rfl); have hx2 := (blk_cell HX.out.res 0).trans (show _ = some (Value.slice none 0 0) from rfl); have hxf := blk_frozen HX.out.res 0; have hsz2 : w.heap.size + 1 ≤ w2.heap.size := by have := blk_lt HX.out.res; omega) | (refine app_ints (w.heap.size + 1) rfl _ _ rfl (.slice A2 1 c2) ([] ++ [n]) [] none (0) 0 rfl rfl HX.out.row (HX.out.fr.C (S := fun _ => False) 0 HCD.out (fun _ _ _ => id)) hsz2 hl3 ?_; intro v3 w3 h3 h4 _; obtain ⟨A3, c3, rfl⟩ := Kd.R_slice h3; have HD := Aside0.mk (HX.out.done h4 h3 hB HI.out HST.out HOK.out); have hx3 := (blk_cell HD.out.1 0).trans (show _ = some (Value.slice none 0 0) from rfl); have hxf3 := blk_frozen HD.out.1 0))
          have e : ([] ++ [n] ++ [] : List Int).length = 1 := rfl
          have HE := HD.out
          rw [e] at HE
          exact bodyPost_ret (results_cell_row rfl _ _ (w.heap.size + 1) 40 #[.slice A3 (1) c3] (0, 0) _ rfl (blk_put HE.1 0 _ rfl) hu rfl rset_info) rfl HE.2
        · by_cases hck : c = k
          · have HCD := Aside0.mk (show kI.C w (some ⟨g, 0, none⟩) (us.length - k) (us.drop k) by have := Kd.C_drop (m := k) (c := c) HC.out (by omega) hlc; simpa [hck] using this)
            go_wp2_with (at_builtin; first | (refine app_int (w.heap.size + 1) rfl _ _ rfl (.slice A1 k c1) (us.take k) n rfl rfl HL.out.row hsz hl2 ?_; intro v2 w2 h1 h2 _; obtain ⟨A2, c2, rfl⟩ := Kd.R_slice h1; have HX := Aside0.mk (HL.out.last h2 hk h1); have hx1 := (blk_cell HX.out.box 0).trans (show _ = some (Value.slice (some ⟨g, 0, none⟩) us.length c) from rfl); have hx2 := (blk_cell HX.out.res 0).trans (show _ = some (Value.slice none 0 0) from rfl); have hxf := blk_frozen HX.out.res 0; have hsz2 : w.heap.size + 1 ≤ w2.heap.size := by have := blk_lt HX.out.res; omega) | (refine app_ints (w.heap.size + 1) rfl _ _ rfl (.slice A2 (k + 1) c2) (us.take k ++ [n]) (us.drop k) (some ⟨g, 0, none⟩) (us.length - k) 0 rfl rfl HX.out.row (HX.out.fr.C (S := fun _ => False) 0 HCD.out (fun _ _ _ => id)) hsz2 hl3 ?_; intro v3 w3 h3 h4 _; obtain ⟨A3, c3, rfl⟩ := Kd.R_slice h3; have HD := Aside0.mk (HX.out.done h4 h3 hB HI.out HST.out HOK.out); have hx3 := (blk_cell HD.out.1 0).trans (show _ = some (Value.slice none 0 0) from rfl); have hxf3 := blk_frozen HD.out.1 0))
            have e : (us.take k ++ [n] ++ us.drop k).length = k + (us.length - k + 1) := by simp; omega
            have HE := HD.out
            rw [e] at HE
            exact bodyPost_ret (results_cell_row rfl _ _ (w.heap.size + 1) 40 #[.slice A3 (k + (us.length - k + 1)) c3] (0, 0) _ rfl (blk_put HE.1 0 _ rfl) hu rfl rset_info) rfl HE.2
          · have HCD := Aside0.mk (show kI.C w (some ⟨g, k, none⟩) (us.length - k) (us.drop k) by have := Kd.C_drop (m := k) (c := c) HC.out (by omega) hlc; simpa [hck, kI, Kd.int, Kd.scalar, add_plain] using this)
            go_wp2_with (at_builtin; first | (refine app_int (w.heap.size + 1) rfl _ _ rfl (.slice A1 k c1) (us.take k) n rfl rfl HL.out.row hsz hl2 ?_; intro v2 w2 h1 h2 _; obtain ⟨A2, c2, rfl⟩ := Kd.R_slice h1; have HX := Aside0.mk (HL.out.last h2 hk h1); have hx1 := (blk_cell HX.out.box 0).trans (show _ = some (Value.slice (some ⟨g, 0, none⟩) us.length c) from rfl); have hx2 := (blk_cell HX.out.res 0).trans (show _ = some (Value.slice none 0 0) from rfl); have hxf := blk_frozen HX.out.res 0; have hsz2 : w.heap.size + 1 ≤ w2.heap.size := by have := blk_lt HX.out.res; omega) | (refine app_ints (w.heap.size + 1) rfl _ _ rfl (.slice A2 (k + 1) c2) (us.take k ++ [n]) (us.drop k) (some ⟨g, k, none⟩) (us.length - k) (c - k) rfl rfl HX.out.row (HX.out.fr.C (S := fun _ => False) 0 HCD.out (fun _ _ _ => id)) hsz2 hl3 ?_; intro v3 w3 h3 h4 _; obtain ⟨A3, c3, rfl⟩ := Kd.R_slice h3; have HD := Aside0.mk (HX.out.done h4 h3 hB HI.out HST.out HOK.out); have hx3 := (blk_cell HD.out.1 0).trans (show _ = some (Value.slice none 0 0) from rfl); have hxf3 := blk_frozen HD.out.1 0))
            have e : (us.take k ++ [n] ++ us.drop k).length = k + (us.length - k + 1) := by simp; omega
            have HE := HD.out
            rw [e] at HE
            exact bodyPost_ret (results_cell_row rfl _ _ (w.heap.size + 1) 40 #[.slice A3 (k + (us.length - k + 1)) c3] (0, 0) _ rfl (blk_put HE.1 0 _ rfl) hu rfl rset_info) rfl HE.2
end Go.Proofs.YtpjhflimaiaokaaDoor.RSet
