/- Bools that came in, opened; TermCloses, of what it is handed. -/
import Derived.Test.YtifhkjcimhhaiaaTerBo
import Derived.Test.YtifhkjcimhhaiaaTerCa
namespace Go.Proofs.Ytifhkjcimhhaiaa
open Go Go.RowKit
section
variable {H : Type} {enc : TypeId × Value → H} {w : World} {base : Nat} {sp : Nat → Bool} {held : Bool}
theorem open_bools {a : Option Addr} {len cap : Nat} {x : DataW H} {p : List MemPlace} (h : DataW.Trod enc Try.prog w base sp held 44 (.slice a len cap) x p) :
    ∃ xs : List Bool, xs.length = len ∧ len ≤ Rows.uptoBulk x ∧ Rd w 1 (.slice a len cap) len (vcs Value.bool xs) := by
  have hlen : len ≤ Rows.uptoBulk x := by
    obtain ⟨n, hn⟩ := h
    exact mu_slice bulkMu (u := 4) (by kernel_rfl) hn
  obtain ⟨xss, h1, h2, h3⟩ := open_flats (d := 1) (ks := [none]) (size := 1) (e := 4) (by kernel_rfl) (by kernel_rfl) (by kernel_rfl) h
  have : ∃ xs : List Bool, xss = xs.map (fun y => [Value.bool y]) := by
    clear h1 h3
    induction xss with
    | nil => exact ⟨[], rfl⟩
    | cons ys xss ih =>
      obtain ⟨xs, rfl⟩ := ih (fun zs hz => h2 zs (by simp [hz]))
      obtain ⟨hf, hl⟩ := h2 ys (by simp)
      match ys, hf with
      | [.bool y], hf => exact ⟨y :: xs, rfl⟩
  obtain ⟨xs, rfl⟩ := this
  have e : (xs.map (fun y => [Value.bool y])).flatten = vcs Value.bool xs := by
    clear h1 h2 h3
    induction xs with
    | nil => rfl
    | cons x xs ih => rw [List.map_cons, List.flatten_cons, ih, vcs_cons]; rfl
  rw [e] at h3
  exact ⟨xs, by simpa using h1, hlen, h3⟩
end
theorem dn_src {l : List Dn} {v : Value} {w : World} (hok : (dnR v l).ok w) : DnS w (fpL []) v l :=
  ⟨OK.src0 ((dnR_of _ l).rows.rd w hok) (fun k _ ⟨r, hr, _⟩ => nomatch hr), fun x hx => OK.src0 (((dnR_of _ l).ls x hx).rd w hok) (fun k _ ⟨r, hr, _⟩ => nomatch hr)⟩
theorem fn_up {P : Program} {f : FuncId} {vs : List Value} {A : List Res} {w : World} (h : Fn P f vs [] w (fun _ : Unit => True) (fun _ => .bool true) (fun _ => [])) : Fn P f vs A w (fun _ : Unit => True) (fun _ => .bool true) (fun _ => []) := by
  refine Calls.mono h ?_
  rintro e w' ⟨x, h1, h2, h3⟩
  exact ⟨x, h1, h2, h3.chg.mono (fun k _ ⟨r, hr, _⟩ => nomatch hr), (fun _ h => nomatch h), (fun _ h => nomatch h), (fun _ h => nomatch h), List.Pairwise.nil⟩
end Go.Proofs.Ytifhkjcimhhaiaa
