/-
The set of numbers: Key, walked.
-/
import Derived.Test.YtpjhflimaiaokaaDoorKA
import Derived.Test.YtpjhflimaiaokaaDoorKP
import Derived.Test.YtpjhflimaiaokaaDoorBU
import Derived.Test.YtpjhflimaiaokaaDoorShelf
import Derived.Lib.ItoaLen
namespace Go.Proofs.YtpjhflimaiaokaaDoor.SetW
open Go.RowKit Go.Proofs.YtpjhflimaiaokaaDoorW.PrintWords Go.Proofs.YtpjhflimaiaokaaDoorW.PrintLast Go.Proofs.YtpjhflimaiaokaaDoorW.PrintMore Go.Proofs.YtpjhflimaiaokaaDoor.Fr Go.Proofs.YtpjhflimaiaokaaDoor.Sets Go.Proofs.YtpjhflimaiaokaaDoor.Keys Go.Proofs.YtpjhflimaiaokaaDoor.Bld

/-- The library's table stands. -/
def Tab (w : World) : Prop := Lib.TabIs Tryd.prog w "internal/strconv.uint64pow10" .u64 Lib.pow10Tab
def bytesI (l : List UInt8) : List Int := l.map fun b => (b.toNat : Int)
theorem bytesOf_text (l : List UInt8) : bytesOf ⟨l.toArray⟩ = bytesI l := by simp [bytesOf, bytesI]
theorem bytesI_append (a b : List UInt8) : bytesI (a ++ b) = bytesI a ++ bytesI b := by simp [bytesI]
theorem Tab.fr {w w1 : World} {S : Nat → Prop} (h : Tab w) (hF : Fr S w w1) (hS : ∀ k, k < w.heap.size → ¬ S k) : Tab w1 := by
  unfold Tab Lib.TabIs World.var? at *
  obtain ⟨g, hg, hc⟩ := Option.bind_eq_some_iff.1 h
  refine Option.bind_eq_some_iff.2 ⟨g, hg, ?_⟩
  have hlt : g < w.heap.size := by
    by_cases hx : g < w.heap.size
    · exact hx
    · rw [Array.getElem?_eq_none (by omega)] at hc
      cases hc
  rw [hF.block g hlt (hS g hlt)]
  exact hc
theorem grow_fr (S : Nat → Prop) (w : World) (k : Nat) (os : Array Obj) : Fr S w (Go.«Sort».grow (w.drewN k) os) := ⟨rfl, rfl, rfl, by simp [Go.«Sort».grow, World.drewN], fun i hi _ => by simp [Go.«Sort».grow, World.drewN, Array.getElem?_append, hi]⟩
theorem keyB_le (l : List Int) (hn : ∀ x, x ∈ l → isNum x = true) : (keyB l).length ≤ 22 * l.length := by
  induction l with
  | nil => simp [keyB]
  | cons x l ih =>
    have h1 := ih (fun y hy => hn y (List.mem_cons_of_mem _ hy))
    have h2 := hn x (List.mem_cons_self ..)
    simp only [isNum, decide_eq_true_eq] at h2
    have h3 := Lib.itoa_length_le x (by omega) (by omega)
    simp only [keyB, List.flatMap_cons, List.length_append, List.length_nil, List.length_cons] at *
    omega
set_option maxRecDepth 100000 in
theorem key_calls (w : World) (B g : Nat) (sv : Value) (l : List Int) (h : Nums w B g sv l) (hl : Rising l) (hn : ∀ x, x ∈ l → isNum x = true) (ht : Tab w) :
    Calls Tryd.prog 17 #[.pointer (some ⟨g, 0, none⟩)] w fun e w' => e = .returned (.string ⟨(keyB l).toArray⟩) ∧ Fr (fun _ => False) w w' := by
  obtain ⟨A, c, rfl, _, hC⟩ := Kd.R_reads h.row
  have hlen := len_le hl hn
  have hc : (w.alloc (.cells #[.pointer none, .slice none 0 0] 84)).cell? ⟨g, 0, none⟩ = some (.slice A l.length c) := (blk_cell (blk_alloc h.blk _) 0).trans rfl
  have hu := Tryd.underlying67
  have hm := Kd.C_max hC
  have HC := Aside0.mk hC
  have HN := Aside0.mk hn
  have HT := Aside0.mk ht
  clear h hC hl hn ht
  go_enter Tryd.func17, Tryd.ntmps17
  go_wp2_with (fail)
  go_loopw [13] (fun a W => ∃ (k : Nat) (p v : Value), a = .int .i64 k ∧ k ≤ l.length ∧ Aside0 (Bd W w.heap.size w.heap.size p v (bytesI (keyB (l.take k)))) ∧ Aside0 (Fr (fun q => w.heap.size ≤ q) w W)) (fun a _ => l.length - (intOf a).toNat)
  case atStart => exact ⟨0, _, _, rfl, Nat.zero_le _, ⟨⟨blk_new _ _, Kd.R_nil _ _ _ _ _, .inl rfl⟩⟩, ⟨(Fr.refl _ _).alloc _⟩⟩
  case round =>
    obtain ⟨k, p, v, rfl, hk, HB, HF⟩ := hrel
    by_cases hlt : k < l.length
    · obtain ⟨ad, rfl, hx⟩ := Kd.at_int HC.out (k : Int) (by omega) (by omega)
      simp only [Int.toNat_natCast] at hx
      have hw1 := World.block_lt_of_cell? w _ hx
      have hx2 : wr.cell? (ad.add k) = some (.int .i64 (rd l k)) := HF.out.cell hx (by omega)
      have HNK := Aside0.mk (HN.out _ (mem_iff_rd.2 ⟨k, hlt, rfl⟩))
      have HTW := Aside0.mk (HT.out.fr HF.out (fun q h1 h2 => by omega))
      have hkb := keyB_le (l.take k) (fun x hx => HN.out x (List.mem_of_mem_take hx))
      have hkl : (l.take k).length = k := by simp; omega
      have hni := HNK.out
      simp only [isNum, decide_eq_true_eq] at hni
      go_wp2_with (fail)
      refine (Tryd.strconv_Itoa _ (by omega) (by omega) wr HTW.out).mono ?_
      rintro e W1 ⟨rfl, q, os, hW⟩
      have HF1 := Aside0.mk (show Fr (fun _ => False) wr W1 from by rw [hW]; exact grow_fr _ _ _ _)
      clear hW hni
      have HB1 := Aside0.mk (show Bd W1 w.heap.size w.heap.size p v (bytesI (keyB (l.take k))) from ⟨HF1.out.blk HB.out.blk id, HF1.out.R HB.out.row (fun _ _ => id), HB.out.addr⟩)
      have hsz : w.heap.size ≤ W1.heap.size := by have := HF.out.size; have := HF1.out.size; omega
      have hil := Lib.itoa_length_le (rd l k) (by have := HNK.out; simp only [isNum, decide_eq_true_eq] at this; omega) (by have := HNK.out; simp only [isNum, decide_eq_true_eq] at this; omega)
      go_wp2_with (fail)
      refine (writeString_calls W1 w.heap.size w.heap.size p v _ _ HB1.out hsz (Nat.le_refl _) (by simp [bytesI, ByteArray.size]; omega)).mono ?_
      rintro e W2 ⟨⟨r, rfl⟩, v2, hB2, hF2⟩
      have HB2 := Aside0.mk hB2
      have HF2 := Aside0.mk hF2
      have hsz2 : w.heap.size ≤ W2.heap.size := by have := hF2.size; omega
      clear hB2 hF2
      go_wp2_with (fail)
      refine (writeByte_calls W2 w.heap.size w.heap.size _ v2 _ 32 HB2.out hsz2 (Nat.le_refl _) (by simp [bytesI, bytesOf]; omega)).mono ?_
      rintro e W3 ⟨rfl, v3, hB3, hF3⟩
      have hke : keyB (l.take (k + 1)) = keyB (l.take k) ++ Lib.itoa (rd l k) ++ [32] := by
        rw [← keyB_snoc]; congr 1; rw [List.take_add_one]; simp [rd, List.getD_eq_getElem?_getD, hlt]
      have HB3 := Aside0.mk (show Bd W3 w.heap.size w.heap.size (.pointer (some ⟨w.heap.size, 0, none⟩)) v3 (bytesI (keyB (l.take (k + 1)))) by
        rw [hke, bytesI_append, bytesI_append, ← bytesOf_text (Lib.itoa (rd l k))]; exact hB3)
      have HF3 := Aside0.mk (((HF.out.trans HF1.out (fun _ _ hf => hf.elim)).trans HF2.out (fun _ _ hf => hf)).trans hF3 (fun _ _ hf => hf))
      clear hB3 hF3 hke hkb hkl
      go_wp2_with (fail)
      exact ⟨⟨k + 1, _, v3, by go_num, by omega, HB3, HF3⟩, by simp [intOf]; omega⟩
    · obtain rfl : k = l.length := by omega
      have HBL := Aside0.mk (show Lib.IsBuilder 84 5 w.heap.size w.heap.size (Lib.byteCells (keyB l)) wr by
        have hR := Kd.own_of_R HB.out.row
        have e : (bytesI (keyB (l.take l.length))).map (fun n => Value.int .u8 n) = Lib.byteCells (keyB l) := by rw [List.take_length]; simp [bytesI, Lib.byteCells]
        have hR2 : wr.ownsRow w.heap.size 5 1 v (Lib.byteCells (keyB l)).length (Lib.byteCells (keyB l)) := by
          rw [← e]; simpa [encs] using hR
        have hne : v.ownBlock ≠ some w.heap.size := fun e2 => HB.out.ne e2.symm
        rcases HB.out.addr with rfl | rfl
        · exact .inl ⟨Nat.le_refl _, v, HB.out.blk, hR2, hne⟩
        · exact .inr ⟨Nat.le_refl _, v, HB.out.blk, hR2, hne⟩)
      go_wp2_with (fail)
      refine (Tryd.Builder_String_any w.heap.size w.heap.size (keyB l) wr HBL.out HF.out.size).mono ?_
      rintro e W1 ⟨rfl, hb⟩
      have HF1 := Aside0.mk (HF.out.below (Nat.le_refl _) (fun i h1 h2 => by omega))
      have HB1 := Aside0.mk hb
      clear hb
      go_wp2_with (fail)
      go_ret
      exact ⟨rfl, Fr.of_below (HF1.out.trans HB1.out)⟩
end Go.Proofs.YtpjhflimaiaokaaDoor.SetW
