/-
One call of one of two sets, of whatever kind: the cases joined.
-/
import Derived.Test.YtpjhflimaiaokaaDoorDA
import Derived.Test.YtpjhflimaiaokaaDoorDB
namespace Go.Proofs.YtpjhflimaiaokaaDoor.Does
open Go.RowKit Go.Proofs.YtpjhflimaiaokaaDoorW.PrintWords Go.Proofs.YtpjhflimaiaokaaDoorW.PrintLast Go.Proofs.YtpjhflimaiaokaaDoorW.PrintMore Go.Proofs.YtpjhflimaiaokaaDoor.Fr Go.Proofs.YtpjhflimaiaokaaDoor.Sets Go.Proofs.YtpjhflimaiaokaaDoor.SetW Go.Proofs.YtpjhflimaiaokaaDoor.RSet

theorem and_one (wh : Int) : bits BinOp.and IntKind.i64 wh 1 = 0 ∨ bits BinOp.and IntKind.i64 wh 1 = 1 := by
  have h : bits BinOp.and IntKind.i64 wh 1 = IntKind.i64.wrap (((BitVec.ofInt 64 wh).toNat % 2 : Nat) : Int) := by
    show IntKind.i64.wrap (((BitVec.ofInt 64 wh &&& BitVec.ofInt 64 1).toNat : Nat) : Int) = _
    rw [BitVec.toNat_and, show (BitVec.ofInt 64 1).toNat = 1 from rfl, Nat.and_one_is_mod]
  rcases Nat.mod_two_eq_zero_or_one (BitVec.ofInt 64 wh).toNat with e | e
  · rw [e] at h
    exact .inl (h.trans (by decide))
  · rw [e] at h
    exact .inr (h.trans (by decide))
theorem kind9 (k : Int) : 0 ≤ (wrap64 (k.tmod 9 + 9)).tmod 9 ∧ (wrap64 (k.tmod 9 + 9)).tmod 9 < 9 := by
  have h1 := Int.tmod_lt_of_pos k (b := 9) (by decide)
  have h2 := Int.lt_tmod_of_pos k (b := 9) (by decide)
  have h3 : wrap64 (k.tmod 9 + 9) = k.tmod 9 + 9 := by simp only [wrap64]; omega
  rw [h3]
  exact ⟨Int.tmod_nonneg 9 (by omega), Int.tmod_lt_of_pos _ (by decide)⟩
theorem does_calls (w : World) (top ga gr : Nat) (k wh n : Int) (A : Option Addr) (c : Nat) (L l m : List Int) (D : Duo w top ga gr l m) (hsz : top ≤ w.heap.size)
    (hC : kI.C w A L.length L) (hlt : ∀ ad, A = some ad → 0 < L.length → ad.block < top) (hT : Tab w) :
    Calls Tryd.prog 19 #[.pointer (some ⟨ga, 0, none⟩), .pointer (some ⟨gr, 0, none⟩), .agg #[.int .i64 k, .int .i64 wh, .int .i64 n, .slice A L.length c]] w (DoPost w top ga gr) := by
  obtain ⟨h0, h9⟩ := kind9 k
  have hm : (wrap64 (k.tmod 9 + 9)).tmod 9 = 0 ∨ (wrap64 (k.tmod 9 + 9)).tmod 9 = 1 ∨ (wrap64 (k.tmod 9 + 9)).tmod 9 = 2 ∨ (wrap64 (k.tmod 9 + 9)).tmod 9 = 3 ∨ (wrap64 (k.tmod 9 + 9)).tmod 9 = 4 ∨ (wrap64 (k.tmod 9 + 9)).tmod 9 = 5 ∨ (wrap64 (k.tmod 9 + 9)).tmod 9 = 6 ∨ (wrap64 (k.tmod 9 + 9)).tmod 9 = 7 ∨ (wrap64 (k.tmod 9 + 9)).tmod 9 = 8 := by
    generalize (wrap64 (k.tmod 9 + 9)).tmod 9 = j at h0 h9 ⊢
    omega
  rcases and_one wh with hw | hw
  · rcases hm with e | e | e | e | e | e | e | e | e
    · exact does_0_0 w top ga gr k wh n A c L l m D hsz hw e hC hlt hT
    · exact does_0_1 w top ga gr k wh n A c L l m D hsz hw e hC hlt hT
    · exact does_0_2 w top ga gr k wh n A c L l m D hsz hw e hC hlt hT
    · exact does_0_3 w top ga gr k wh n A c L l m D hsz hw e hC hlt hT
    · exact does_0_4 w top ga gr k wh n A c L l m D hsz hw e hC hlt hT
    · exact does_0_5 w top ga gr k wh n A c L l m D hsz hw e hC hlt hT
    · exact does_0_6 w top ga gr k wh n A c L l m D hsz hw e hC hlt hT
    · exact does_0_7 w top ga gr k wh n A c L l m D hsz hw e hC hlt hT
    · exact does_0_8 w top ga gr k wh n A c L l m D hsz hw e hC hlt hT
  · rcases hm with e | e | e | e | e | e | e | e | e
    · exact does_1_0 w top ga gr k wh n A c L m l D hsz hw e hC hlt hT
    · exact does_1_1 w top ga gr k wh n A c L m l D hsz hw e hC hlt hT
    · exact does_1_2 w top ga gr k wh n A c L m l D hsz hw e hC hlt hT
    · exact does_1_3 w top ga gr k wh n A c L m l D hsz hw e hC hlt hT
    · exact does_1_4 w top ga gr k wh n A c L m l D hsz hw e hC hlt hT
    · exact does_1_5 w top ga gr k wh n A c L m l D hsz hw e hC hlt hT
    · exact does_1_6 w top ga gr k wh n A c L m l D hsz hw e hC hlt hT
    · exact does_1_7 w top ga gr k wh n A c L m l D hsz hw e hC hlt hT
    · exact does_1_8 w top ga gr k wh n A c L m l D hsz hw e hC hlt hT
end Go.Proofs.YtpjhflimaiaokaaDoor.Does
