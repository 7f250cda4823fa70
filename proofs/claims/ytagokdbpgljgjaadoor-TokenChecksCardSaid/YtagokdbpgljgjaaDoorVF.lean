/-
A row's lines: token.Lines, walked, where each token has its line.
-/
import Derived.Test.YtagokdbpgljgjaaDoorVE
namespace Go.Proofs.YtagokdbpgljgjaaDoor.Tok
open Go.RowKit Go.Proofs.YtagokdbpgljgjaaDoorW.PrintWords Go.Proofs.YtagokdbpgljgjaaDoorW.PrintLast Go.Proofs.YtagokdbpgljgjaaDoorW.PrintMore Go.Proofs.YtagokdbpgljgjaaDoor.Fr Go.Proofs.YtagokdbpgljgjaaDoor.PGramFirsts Go.Proofs.YtagokdbpgljgjaaDoor.TextSet Go.Proofs.YtagokdbpgljgjaaDoor.Bld

def linesB (L : S55 → ByteArray) (l : List S55) : List UInt8 := l.flatMap fun t => (L t).data.toList
theorem linesB_take (L : S55 → ByteArray) (l : List S55) (i : Nat) (h : i < l.length) : bytesI (linesB L (l.take i)) ++ bytesOf (L (rd_T55 l i)) = bytesI (linesB L (l.take (i + 1))) := by
  rw [bytesOf_data, ← bytesI_append, List.take_add_one]
  unfold linesB
  rw [List.flatMap_append]
  simp [rd_T55, List.getD_eq_getElem?_getD, List.getElem?_eq_getElem h]
theorem linesB_size (L : S55 → ByteArray) (l : List S55) (hL : ∀ i : Nat, i < l.length → (L (rd_T55 l i)).size ≤ 100000) : ∀ i, i ≤ l.length → (bytesI (linesB L (l.take i))).length ≤ 100000 * i
  | 0, _ => by simp [linesB, bytesI]
  | i + 1, h => by
    have h1 := linesB_size L l hL i (by omega)
    have h2 := hL i (by omega)
    rw [← linesB_take L l i (by omega), List.length_append]
    have h3 : (bytesOf (L (rd_T55 l i))).length = (L (rd_T55 l i)).size := by simp [bytesOf]
    omega
set_option maxHeartbeats 4000000 in
set_option maxRecDepth 100000 in
theorem lines_calls (w : World) (ns : List ByteArray) (A : Option Addr) (cp : Nat) (hA : Kd.string.C w A ns.length ns) (hs : ∀ s, s ∈ ns → s.size ≤ maxLen) (src : ByteArray) (l : List S55) (A2 : Option Addr) (c2 : Nat) (hC : Kd.C k55 w A2 l.length l)
    (hk : KindsOk ns) (hle : l.length ≤ 65536) (hchk : checkF ns.length src.size 0 0 l = (0, 0)) (L : S55 → ByteArray) (hLs : ∀ i : Nat, i < l.length → (L (rd_T55 l i)).size ≤ 100000)
    (hL : ∀ i : Nat, i < l.length → ∀ W, Fr (fun q => w.heap.size ≤ q) w W → Calls Tryd.prog 36 #[.slice A ns.length cp, .string src, .agg #[.int .i64 (rd_T55 l i).f0, .int .i64 (rd_T55 l i).f1, .int .i64 (rd_T55 l i).f2]] W fun e w' => e = .returned (.tuple #[.string (L (rd_T55 l i)), .bool true]) ∧ Fr (fun _ => False) W w') :
    Calls Tryd.prog 18 #[.slice A ns.length cp, .string src, .slice A2 l.length c2] w fun e w' => e = .returned (.tuple #[.string ⟨(linesB L l).toArray⟩, .int .i64 0]) ∧ Fr (fun _ => False) w w' := by
  go_enter Tryd.func18, Tryd.ntmps18
  have HA := Aside0.mk hA
  have HC := Aside0.mk hC
  have HS := Aside0.mk hs
  have HK := Aside0.mk hk
  have HL := Aside0.mk hL
  have HLS := Aside0.mk hLs
  have HCH := Aside0.mk hchk
  clear hA hC hs hk hL hLs hchk
  go_wp2_with (fail)
  refine (check_calls w ns A cp HA.out HS.out src l A2 c2 HC.out).mono ?_
  rintro e W1 ⟨⟨a, b, rfl, hr, _, _⟩, hF⟩
  obtain ⟨rfl, rfl⟩ : a = 0 ∧ b = 0 := by
    have := (hr HK.out hle).trans HCH.out
    simpa using this
  have HF0 := Aside0.mk (hF.mono (T := fun q => w.heap.size ≤ q) (fun _ h => h.elim))
  clear hF hr
  go_wp2_with (fail)
  have HB0 := Aside0.mk (show Bd (W1.alloc (.cells #[.pointer none, .slice none 0 0] 79)) w.heap.size W1.heap.size (.pointer none) (.slice none 0 0) [] from ⟨blk_new _ _, Kd.R_nil _ _ _ _ _, .inl rfl⟩)
  have HF1 := Aside0.mk (HF0.out.alloc (.cells #[.pointer none, .slice none 0 0] 79))
  have hsz := HF0.out.size
  obtain ⟨bb, hbb⟩ : ∃ bb, W1.heap.size = bb := ⟨_, rfl⟩
  rw [hbb] at hsz HB0
  simp only [hbb]
  clear hbb HF0
  go_loopw [27] (fun a W => ∃ (i : Nat) (p v : Value), a = .int .i64 i ∧ i ≤ l.length ∧ Aside0 (Bd W w.heap.size bb p v (bytesI (linesB L (l.take i)))) ∧ Aside0 (Fr (fun q => w.heap.size ≤ q) w W)) (fun a _ => l.length - (intOf a).toNat)
  case atStart => exact ⟨0, _, _, rfl, Nat.zero_le _, HB0, HF1⟩
  case round =>
    clear HB0 HF1
    obtain ⟨i, p, v, rfl, hi, HB, HF⟩ := hrel
    by_cases hlt : i < l.length
    · obtain ⟨ad, rfl, hx0, hx1, hx2⟩ := at_T55 HC.out (i : Int) (by omega) (by omega)
      have hb0 := World.block_lt_of_cell? w _ hx0
      have hb1 := World.block_lt_of_cell? w _ hx1
      have hb2 := World.block_lt_of_cell? w _ hx2
      replace hx0 := HF.out.cell hx0 (by omega)
      replace hx1 := HF.out.cell hx1 (by omega)
      replace hx2 := HF.out.cell hx2 (by omega)
      clear hb0 hb1 hb2
      simp only [Int.toNat_natCast] at hx0 hx1 hx2
      have HT := Aside0.mk (linesB_take L l i hlt)
      have hl1 := linesB_size L l HLS.out i hi
      have hl2 := HLS.out i hlt
      have HC1 := Aside0.mk (HL.out i hlt)
      generalize rd_T55 l i = t at hx0 hx1 hx2 HT HC1 hl2
      obtain ⟨k, f, u⟩ := t
      go_wp2_with (fail)
      have HF1 := Aside0.mk (HF.out.alloc (.cells #[.int .i64 k, .int .i64 f, .int .i64 u] 55))
      have HB1 := Aside0.mk (show Bd (wr.alloc (.cells #[.int .i64 k, .int .i64 f, .int .i64 u] 55)) w.heap.size bb p v (bytesI (linesB L (l.take i))) from ⟨blk_alloc HB.out.blk _, Kd.R_alloc HB.out.row _, HB.out.addr⟩)
      refine (HC1.out _ HF1.out).mono ?_
      rintro e W2 ⟨rfl, hF2⟩
      have HB2 := Aside0.mk (show Bd W2 w.heap.size bb p v (bytesI (linesB L (l.take i))) from ⟨hF2.blk HB1.out.blk id, hF2.R HB1.out.row (fun _ _ => id), HB1.out.addr⟩)
      have HF2 := Aside0.mk (HF1.out.trans hF2 (fun _ _ h => h.elim))
      have hs2 := HF2.out.size
      clear hF2 HB1 HF1 HB HF
      go_wp2_with (fail)
      refine (writeString_calls W2 w.heap.size bb _ v _ _ HB2.out hs2 hsz (by omega)).mono ?_
      rintro e W3 ⟨⟨r, rfl⟩, v3, hB3, hF3⟩
      have HB3 := Aside0.mk (show Bd W3 w.heap.size bb _ v3 (bytesI (linesB L (l.take (i + 1)))) by
        rw [← HT.out]; exact hB3)
      have HF3 := Aside0.mk (HF2.out.trans hF3 (fun _ _ h => h))
      clear hB3 hF3 HB2 HF2 HT
      go_wp2_with (fail)
      exact ⟨⟨i + 1, _, v3, by go_num, by omega, HB3, HF3⟩, by simp [intOf]; omega⟩
    · obtain rfl : i = l.length := by omega
      have HBL := Aside0.mk (is_builder (l := linesB L l) hsz (by have h := HB.out; rw [List.take_length] at h; exact h))
      go_wp2_with (fail)
      refine (Tryd.Builder_String_any w.heap.size bb _ wr HBL.out HF.out.size).mono ?_
      rintro e W3 ⟨rfl, hb⟩
      have HF3 := Aside0.mk ((HF.out.below (Nat.le_refl _) (fun k h1 h2 => by omega)).trans hb)
      clear hb
      go_wp2_with (fail)
      go_ret2
      exact ⟨rfl, Fr.of_below HF3.out⟩
end Go.Proofs.YtagokdbpgljgjaaDoor.Tok
