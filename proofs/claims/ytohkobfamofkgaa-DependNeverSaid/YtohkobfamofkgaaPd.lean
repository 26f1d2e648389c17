/- played: a web under calls; the calls as they come in. -/
import Derived.Test.YtohkobfamofkgaaPl
import Derived.Test.YtohkobfamofkgaaIn
import Derived.Deep.Strs
namespace Go.Proofs.Ytohkobfamofkgaa
open Go.RowKit Go.Maps Go.Deep Go.WideShapes Go.ChangeShapes Go.Proofs.Ytohkobfamofkgaa Go.Proofs.Ytohkobfamofkgaa.Wb Go.Proofs.YtohkobfamofkgaaW.PrintWords Go.Proofs.YtohkobfamofkgaaW.PrintLast Go.Proofs.YtohkobfamofkgaaW.PrintMore

/-- A call: kind, task, cell. -/
def kcall : Kd (Int × Int × Int) := Kd.pair (Kd.int .i64) (Kd.pair (Kd.int .i64) (Kd.int .i64))
theorem kcall_open {w : World} {x : Int × Int × Int} {cs : List Value} (h : kcall.K w x cs) : cs = [.int .i64 x.1, .int .i64 x.2.1, .int .i64 x.2.2] := by
  obtain ⟨_, _, rfl, rfl, _, _, rfl, rfl, rfl⟩ := h
  exact rfl
theorem kcall_mk (w : World) (a b c : Int) : kcall.K w (a, b, c) [.int .i64 a, .int .i64 b, .int .i64 c] := ⟨_, _, rfl, rfl, _, _, rfl, rfl, rfl⟩
section
variable {H : Type} {enc : TypeId × Value → H} {w : World} {base b0 : Nat} {spare : Nat → Bool} {held : Bool} {r : Reach} {v : Value} {d0 : DataW H} {p : List MemPlace}
theorem cells3 : Try.prog.cellsOf 3 = 1 := by kernel_rfl
theorem dec_call : ∀ n cs y, DataW.trod enc Try.prog w base spare held n 50 cs = some y → cs.length = kcall.sz → ∃ x, kcall.K w x cs ∧ True := by
  intro n cs y h hl
  obtain ⟨y0, y1, y2, n', _, _, h0, h1, h2⟩ := trod_struct3 Try.underlying50 h
  match cs, hl with
  | [a, b, c], _ =>
    simp only [cells3] at h0 h1 h2
    obtain ⟨x0, e0, _⟩ := DataW.trod_int Try.underlying3 h0
    obtain ⟨x1, e1, _⟩ := DataW.trod_int Try.underlying3 h1
    obtain ⟨x2, e2, _⟩ := DataW.trod_int Try.underlying3 h2
    simp at e0 e1 e2
    subst e0; subst e1; subst e2
    exact ⟨(x0, x1, x2), kcall_mk w x0 x1 x2, trivial⟩
theorem open_calls (hv : Value.okWide Try.prog w r b0 31 v) (h : DataW.Trod enc Try.prog w base spare held 31 v d0 p) :
    ∃ (A : Option Addr) (l : List (Int × Int × Int)) (c : Nat), v = .slice A l.length c ∧ l.length ≤ c ∧ Kd.C kcall w A l.length l := by
  obtain ⟨A, l, c, h1, h2, h3, _⟩ := open_row kcall (fun _ => True) Try.underlying31 (by kernel_rfl) dec_call hv h
  exact ⟨A, l, c, h1, h2, h3⟩
end
theorem call_at {w : World} {A : Option Addr} {l : List (Int × Int × Int)} (h : Kd.C kcall w A l.length l) (j : Nat) (hj : j < l.length) : ∃ ad, A = some ad ∧ w.cell? (ad.add (j * 3)) = some (.int .i64 l[j].1) ∧ w.cell? ⟨(ad.add (j * 3)).block, (ad.add (j * 3)).off + 1, none⟩ = some (.int .i64 l[j].2.1) ∧ w.cell? ⟨(ad.add (j * 3)).block, (ad.add (j * 3)).off + 2, none⟩ = some (.int .i64 l[j].2.2) := by
  obtain ⟨ad, e, hx⟩ := h.2.2 (by omega)
  obtain ⟨cs, _, hk, hc⟩ := hx j l[j] (List.getElem?_eq_getElem hj)
  have e3 := kcall_open hk
  subst e3
  have h1 := hc 1 _ rfl
  have h2 := hc 2 _ rfl
  rw [add_field _ _ _ (by omega)] at h1 h2
  exact ⟨ad, e, hc 0 _ rfl, h1, h2⟩
end Go.Proofs.Ytohkobfamofkgaa
