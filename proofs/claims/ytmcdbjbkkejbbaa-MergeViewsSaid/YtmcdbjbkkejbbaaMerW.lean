/- Rows of slices of records: in memory, as bundles, and how a frame opens them. -/
import Derived.Test.YtmcdbjbkkejbbaaMerS
import Derived.Test.YtmcdbjbkkejbbaaMerQ
namespace Go.Proofs.Ytmcdbjbkkejbbaa
open Go Go.RowKit
/-- A slice of records in memory. -/
structure Rw where
  ao : Option Addr
  ca : Nat
  l : List Rc
def rwV (r : Rw) : Value := .slice r.ao r.l.length r.ca
def rwR (r : Rw) : Res := rdR (rwV r) 22 r.l.length (vcs rcV r.l)
def rwsR (ws : List Rw) : List Res := ws.map rwR
theorem rwsR_mem {ws : List Rw} {i : Nat} {k : Rw} (h : ws[i]? = some k) : rwR k ∈ rwsR ws := List.mem_map.2 ⟨k, List.mem_of_getElem? h, rfl⟩
theorem rwV_one (k : Rw) : (rwV k).oneCell' = true := rfl
/-- A row that lies in a bundle. -/
theorem RdOf.bun {A : List Res} {v : Value} {size n : Nat} {cs : List Value} (h : rdR v size n cs ∈ A) : RdOf (bunR A) v size n cs := ⟨fun _ hk => hk _ h⟩
theorem RdOf.row {ws : List Rw} {i : Nat} {k : Rw} (h : ws[i]? = some k) : RdOf (bunR (rwsR ws)) (rwV k) 22 k.l.length (vcs rcV k.l) := RdOf.bun (rwsR_mem h)
/-- One of a bundle, by itself. -/
theorem OK.pick1 {w0 : World} {S : Pm} {H F A : List Res} {w : World} {v : Value} {size n : Nat} {cs : List Value} (h : OK w0 S H w) (t : Take1 H (bunR A) F) (hs : rdR v size n cs ∈ A) : OK w0 S (rdR v size n cs :: H) w := by
  have h1 := h.pick t (B := [rdR v size n cs]) (fun r hr => by rw [List.mem_singleton.1 hr]; exact hs)
  have h2 := OK.unbun h1 .head
  exact h2.turnG .head (Chg.refl _ _) (show (rdR v size n cs).ok w from h2.get .head) (fun k hk => hk.elim) (fun k hk => .inl hk)
/-- One that is only read, as a bundle. -/
theorem OK.bunO1 {w0 : World} {S : Pm} {H F : List Res} {w : World} {r : Res} (h : OK w0 S H w) (t : Take1 H r F) : OK w0 S (bunR [r] :: F) w := OK.bun (A := [r]) (h.roOne t)

variable {P : Program} {w : World} {base : Nat} {sp : Nat → Bool} {held : Bool} {H : Type} {enc : TypeId × Value → H}
theorem open_rows {t e u : TypeId} {a : Option Addr} {len cap : Nat} {x : DataW H} {p : List MemPlace} (ht : P.underlying t = some (.slice e)) (he : P.underlying e = some (.slice u)) (hf : flatT P 5 u = some rcLeaf) (hc : P.cellsOf e = 1) (hc2 : P.cellsOf u = 22) (hb : 0 < P.bytesOf u) (hb2 : 0 < P.bytesOf e)
    (hs : ∀ n ∈ x.weights P t, n ≤ reachBytes) (h : DataW.Trod enc P w base sp held t (.slice a len cap) x p) : ∃ ws : List Rw, ws.length = len ∧ ws.length ≤ reachBytes ∧ (∀ r ∈ ws, ROk r.l ∧ r.l.length ≤ reachBytes ∧ (rwR r).ok w) ∧ Rd w 1 (.slice a len cap) len (ws.map rwV) := by
  obtain ⟨fuel, h⟩ := h
  have hlen := sliceLen ht hb2 h hs
  rcases Go.Deep.open_slice ht h with ⟨hcs, _⟩ | ⟨ad, l, c, m, n, D, Pl, hcs, _, hl, hm, hmm, hxx, hi⟩
  · simp [Value.cells] at hcs
    obtain ⟨rfl, rfl, rfl⟩ := hcs
    exact ⟨[], rfl, Nat.zero_le _, (fun xs hx => nomatch hx), Rd.nil _ _⟩
  · simp [Value.cells] at hcs
    obtain ⟨rfl, rfl, rfl⟩ := hcs
    have hml : len ≤ m := by rw [hmm]; split <;> omega
    have key : ∀ i, i < len → ∃ r : Rw, w.cells? base (ad.add (i * 1)) 1 = some [rwV r] ∧ ROk r.l ∧ r.l.length ≤ reachBytes ∧ (rwR r).ok w := by
      intro i hlt
      obtain ⟨cs', h1, h2⟩ := hi i (by omega)
      rw [hc] at h1
      have hsl : ∃ a1 l1 c1, cs' = [.slice a1 l1 c1] := by
        rcases Go.Deep.open_slice he h2 with ⟨rfl, _⟩ | ⟨ad1, l1, c1, _, _, _, _, rfl, _⟩
        · exact ⟨_, _, _, rfl⟩
        · exact ⟨_, _, _, rfl⟩
      obtain ⟨a1, l1, c1, rfl⟩ := hsl
      obtain ⟨xs, hxl, hxs, hr⟩ := open_recs (x := D i) (p := Pl i) he hf hc2 ⟨n, h2⟩
      subst hxl
      refine ⟨⟨a1, c1, xs⟩, h1, hxs, sliceLen he hb h2 (fun n hn => hs n ?_), hr⟩
      have hx : x = .slice ((List.range len).map D) ((List.range (m - len)).map fun j => D (len + j)) := congrArg Prod.fst hxx
      rw [hx]
      simp only [DataW.weights, ht]
      exact List.mem_cons.2 (.inr (List.mem_append.2 (.inl (weightsAll_mem (List.mem_map.2 ⟨i, List.mem_range.2 hlt, rfl⟩) hn))))
    obtain ⟨f, hf⟩ : ∃ f : Nat → Rw, ∀ i, i < len → w.cells? base (ad.add (i * 1)) 1 = some [rwV (f i)] ∧ ROk (f i).l ∧ (f i).l.length ≤ reachBytes ∧ (rwR (f i)).ok w :=
      ⟨fun i => if h : i < len then (key i h).choose else ⟨none, 0, []⟩, fun i h => by
        simp only [h, dif_pos]
        exact (key i h).choose_spec⟩
    have hv : ∀ i v, ((List.range len).map fun i => f i)[i]? = some v → i < len ∧ v = f i := fun i v h => by
      have hlt : i < len := by have := (List.getElem?_eq_some_iff.1 h).1; simpa using this
      rw [List.getElem?_map, List.getElem?_range hlt] at h
      exact ⟨hlt, by simpa using h.symm⟩
    refine ⟨(List.range len).map fun i => f i, by simp, by simpa using hlen, fun r hr => ?_, ?_⟩
    · obtain ⟨i, hi⟩ := List.getElem?_of_mem hr
      obtain ⟨hlt, rfl⟩ := hv i r hi
      exact (hf i hlt).2
    · refine ⟨by simp, .inr ⟨ad, cap, rfl, hl, hm, fun j u hj => ?_⟩⟩
      rw [List.getElem?_map] at hj
      obtain ⟨r, hr, rfl⟩ := Option.map_eq_some_iff.1 hj
      obtain ⟨hlt, rfl⟩ := hv j r hr
      have hcell := (cells_get (hf j hlt).1).2 0 _ rfl
      have hs : ad.spot = none := by
        have hc0 := (cells_get (hf 0 (by omega)).1).2 0 _ rfl
        have e2 : (ad.add (0 * 1)).add 0 = ad := by simp [Addr.add]
        rw [e2] at hc0
        exact spot_none hc0
      refine ⟨hs, ?_⟩
      obtain ⟨b, off, spt⟩ := ad
      cases hs
      rw [Addr.add_lit, Addr.add_lit] at hcell
      simpa using hcell
end Go.Proofs.Ytmcdbjbkkejbbaa
