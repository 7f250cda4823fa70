/-
The script of calls of two sets: what came in, opened.
-/
import Derived.Test.YtpjhflimaiaokaaDoorOp
import Derived.Test.YtpjhflimaiaokaaDoorSA
import Derived.Test.YtpjhflimaiaokaaDoorLT
namespace Go.Proofs.YtpjhflimaiaokaaDoor.Op
open Go.ChangeShapes Go.WideShapes Go.ChangeAt Go.RowKit
open Go.Proofs.YtpjhflimaiaokaaDoorW.PrintWords Go.Proofs.YtpjhflimaiaokaaDoorW.PrintLast Go.Proofs.YtpjhflimaiaokaaDoorW.PrintMore Go.Proofs.YtpjhflimaiaokaaDoor.SetW

variable {P : Program} {t : TypeId}
theorem opens_fields4 {α β γ δ : Type} {a : Kd α} {b : Kd β} {c : Kd γ} {d : Kd δ} {oa : α → Prop} {ob : β → Prop} {oc : γ → Prop} {od : δ → Prop} {f0 f1 f2 f3 : Field} (ht : P.underlying t = some (.struct #[f0, f1, f2, f3])) (hT : P.cellsOf t = a.sz + (b.sz + (c.sz + d.sz)))
    (e0 : f0.offset = 0) (c0 : P.cellsOf f0.type = a.sz) (e1 : f1.offset = a.sz) (c1 : P.cellsOf f1.type = b.sz) (e2 : f2.offset = a.sz + b.sz) (c2 : P.cellsOf f2.type = c.sz) (e3 : f3.offset = a.sz + b.sz + c.sz) (c3 : P.cellsOf f3.type = d.sz)
    (ha : Opens P a f0.type oa) (hb : Opens P b f1.type ob) (hc : Opens P c f2.type oc) (hd : Opens P d f3.type od) :
    Opens P (Kd.pair a (Kd.pair b (Kd.pair c d))) t (fun x => oa x.1 ∧ ob x.2.1 ∧ oc x.2.2.1 ∧ od x.2.2.2) := by
  intro H enc W base sp hd' fuel cs x hx
  obtain ⟨xs, n, _, rfl, hl, hlen, hf⟩ := DataW.trod_struct ht hx
  match xs, hlen with
  | [y0, y1, y2, y3], _ =>
    have h0 : DataW.trod enc P W base sp hd' n f0.type ((cs.drop f0.offset).take (P.cellsOf f0.type)) = some y0 := by simpa using hf 0 f0 rfl
    have h1 : DataW.trod enc P W base sp hd' n f1.type ((cs.drop f1.offset).take (P.cellsOf f1.type)) = some y1 := by simpa using hf 1 f1 rfl
    have h2 : DataW.trod enc P W base sp hd' n f2.type ((cs.drop f2.offset).take (P.cellsOf f2.type)) = some y2 := by simpa using hf 2 f2 rfl
    have h3 : DataW.trod enc P W base sp hd' n f3.type ((cs.drop f3.offset).take (P.cellsOf f3.type)) = some y3 := by simpa using hf 3 f3 rfl
    rw [e0, c0] at h0
    rw [e1, c1] at h1
    rw [e2, c2] at h2
    rw [e3, c3] at h3
    obtain ⟨x0, k0, r0⟩ := ha _ _ _ _ _ _ _ _ _ h0
    obtain ⟨x1, k1, r1⟩ := hb _ _ _ _ _ _ _ _ _ h1
    obtain ⟨x2, k2, r2⟩ := hc _ _ _ _ _ _ _ _ _ h2
    obtain ⟨x3, k3, r3⟩ := hd _ _ _ _ _ _ _ _ _ h3
    refine ⟨(x0, x1, x2, x3), ⟨k0, k1, k2, k3⟩, _, _, ?_, r0, _, _, rfl, r1, _, _, rfl, r2, r3⟩
    simp only [List.drop_zero, ← List.drop_drop]
    rw [List.take_of_length_le (l := ((cs.drop a.sz).drop b.sz).drop c.sz) (by simp; omega), List.take_append_drop, List.take_append_drop, List.take_append_drop]
/-- A call of the script. -/
structure Ac where
  kind : Int
  which : Int
  n : Int
  l : List Int
instance : Inhabited Ac := ⟨⟨0, 0, 0, []⟩⟩
def kA : Kd Ac := Kd.iso (Kd.pair (Kd.int .i64) (Kd.pair (Kd.int .i64) (Kd.pair (Kd.int .i64) (Kd.slice 3 kI)))) (fun x : Ac => (x.kind, x.which, x.n, x.l))
theorem kA_open {w : World} {x : Ac} {cs : List Value} (h : kA.K w x cs) : ∃ A c, cs = [.int .i64 x.kind, .int .i64 x.which, .int .i64 x.n, .slice A x.l.length c] ∧ kI.C w A x.l.length x.l := by
  obtain ⟨_, _, rfl, rfl, _, _, rfl, rfl, _, _, rfl, rfl, A, c, rfl, _, hC⟩ := h
  exact ⟨A, c, rfl, hC⟩
theorem at_ac {w : World} {A : Option Addr} {n : Nat} {xs : List Ac} (h : Kd.C kA w A n xs) (i : Int) (h0 : 0 ≤ i) (h1 : i < n) : ∃ ad B c, A = some ad ∧ w.cell? (ad.add (i.toNat * 4)) = some (.int .i64 (xs.getD i.toNat default).kind) ∧
    w.cell? ⟨(ad.add (i.toNat * 4)).block, (ad.add (i.toNat * 4)).off + 1, none⟩ = some (.int .i64 (xs.getD i.toNat default).which) ∧ w.cell? ⟨(ad.add (i.toNat * 4)).block, (ad.add (i.toNat * 4)).off + 2, none⟩ = some (.int .i64 (xs.getD i.toNat default).n) ∧
    w.cell? ⟨(ad.add (i.toNat * 4)).block, (ad.add (i.toNat * 4)).off + 3, none⟩ = some (.slice B (xs.getD i.toNat default).l.length c) ∧ kI.C w B (xs.getD i.toNat default).l.length (xs.getD i.toNat default).l := by
  obtain ⟨ad, cs, e, _, hK, hc0⟩ := Kd.C_get h default i h0 h1
  have hc : ∀ j u, cs[j]? = some u → w.cell? (ad.add (i.toNat * 4 + j)) = some u := hc0
  obtain ⟨B, c, rfl, hC⟩ := kA_open hK
  exact ⟨ad, B, c, e, hc 0 _ rfl, by rw [← add_field _ _ 1 (by omega)]; exact hc 1 _ rfl, by rw [← add_field _ _ 2 (by omega)]; exact hc 2 _ rfl, by rw [← add_field _ _ 3 (by omega)]; exact hc 3 _ rfl, hC⟩
theorem opens_act : Opens Tryd.prog kA 45 (fun _ => True) :=
  (opens_fields4 Tryd.underlying45 (by kernel_rfl) rfl (by kernel_rfl) rfl (by kernel_rfl) rfl (by kernel_rfl) rfl (by kernel_rfl) (opens_int Tryd.underlying3) (opens_int Tryd.underlying3) (opens_int Tryd.underlying3)
    (opens_slice 3 Tryd.underlying22 (by kernel_rfl) (opens_int Tryd.underlying3))).iso (fun x => ⟨x.1, x.2.1, x.2.2.1, x.2.2.2⟩) (fun _ => rfl) (fun _ _ => trivial)
end Go.Proofs.YtpjhflimaiaokaaDoor.Op
