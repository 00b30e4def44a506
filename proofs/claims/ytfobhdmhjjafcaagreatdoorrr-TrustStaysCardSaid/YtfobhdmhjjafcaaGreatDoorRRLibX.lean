/- A slice of slices of bytes that may be read: a resource, and how a frame opens it. -/
import Derived.Test.YtfobhdmhjjafcaaGreatDoorRRLibZ
import Derived.SizedLaws
namespace Go.Proofs.YtfobhdmhjjafcaaGreatDoorRR
open Go Go.RowKit

def textsR (lv : Value) (vs : List Value) (ls : List (List Int)) : Res where
  fp := fun k => (blk lv k ∧ vs ≠ []) ∨ ∃ (i : Nat) (v : Value) (bs : List Int), vs[i]? = some v ∧ ls[i]? = some bs ∧ blk v k ∧ ints .u8 bs ≠ []
  wr := noB
  sub := fun _ h => h.elim
  ok := fun w => Rd w 1 lv ls.length vs ∧ ∀ (i : Nat) (v : Value) (bs : List Int), vs[i]? = some v → ls[i]? = some bs → Rd w 1 v bs.length (ints .u8 bs)
  lt := fun w h k hk => by
    rcases hk with hk | ⟨i, v, bs, h1, h2, h3, h4⟩
    · exact h.1.lt' hk.2 k hk.1
    · exact (h.2 i v bs h1 h2).lt' h4 k h3
  st := fun w w' D h hc hd => by
    refine ⟨?_, fun i v bs h1 h2 => ?_⟩
    · by_cases h0 : vs = []
      · exact h.1.empty h0
      · exact h.1.chg hc (fun k hk => hd k (.inl ⟨hk, h0⟩))
    · by_cases h0 : ints .u8 bs = []
      · exact (h.2 i v bs h1 h2).empty h0
      · exact (h.2 i v bs h1 h2).chg hc (fun k hk => hd k (.inr ⟨i, v, bs, h1, h2, hk, h0⟩))
theorem RdOf.texts {lv : Value} {vs : List Value} {ls : List (List Int)} : RdOf (textsR lv vs ls) lv 1 ls.length vs := ⟨fun _ h => h.1⟩
theorem RdOf.text {lv : Value} {vs : List Value} {ls : List (List Int)} {i : Nat} {v : Value} {bs : List Int} (h1 : vs[i]? = some v) (h2 : ls[i]? = some bs) : RdOf (textsR lv vs ls) v 1 bs.length (ints .u8 bs) := ⟨fun _ h => h.2 i v bs h1 h2⟩

section
variable {P : Program} {w : World} {base : Nat} {sp : Nat → Bool} {held : Bool} {H : Type} {enc : TypeId × Value → H}
theorem weightsAll_mem {e : TypeId} {n : Nat} {d : DataW H} : ∀ {l : List (DataW H)}, d ∈ l → n ∈ d.weights P e → n ∈ DataW.weightsAll P e l
  | x :: l, hd, hn => by
    unfold DataW.weightsAll
    rcases List.mem_cons.1 hd with rfl | hd
    · exact List.mem_append.2 (.inl hn)
    · exact List.mem_append.2 (.inr (weightsAll_mem hd hn))
theorem sliceLen {e u : TypeId} {a : Option Addr} {l c n : Nat} {x : DataW H} {p : List MemPlace} (he : P.underlying e = some (.slice u)) (hb : 0 < P.bytesOf u) (h : DataW.trod enc P w base sp held n e [.slice a l c] = some (x, p)) (hs : ∀ n ∈ x.weights P e, n ≤ reachBytes) : l ≤ reachBytes := by
  rcases Go.Deep.open_slice he h with ⟨h1, _⟩ | ⟨_, _, _, m, _, D, _, h1, _, _, _, _, h2, _⟩
  · simp at h1; omega
  · simp at h1
    obtain ⟨rfl, rfl, rfl⟩ := h1
    have hx : x = .slice ((List.range l).map D) ((List.range (m - l)).map fun j => D (l + j)) := congrArg Prod.fst h2
    subst hx
    have := hs ((((List.range l).map D).length + ((List.range (m - l)).map fun j => D (l + j)).length) * P.bytesOf u) (by simp [DataW.weights, he])
    rw [List.length_map, List.length_range] at this
    have h3 : l * 1 ≤ (l + ((List.range (m - l)).map fun j => D (l + j)).length) * P.bytesOf u := Nat.mul_le_mul (Nat.le_add_right _ _) hb
    omega
theorem open_texts {t e u : TypeId} {a : Option Addr} {len cap : Nat} {x : DataW H} {p : List MemPlace} (ht : P.underlying t = some (.slice e)) (he : P.underlying e = some (.slice u)) (hu : P.underlying u = some (.int .u8)) (hc : P.cellsOf e = 1) (hc2 : P.cellsOf u = 1) (hb : 0 < P.bytesOf u) (hb2 : 0 < P.bytesOf e)
    (hs : ∀ n ∈ x.weights P t, n ≤ reachBytes) (h : DataW.Trod enc P w base sp held t (.slice a len cap) x p) : ∃ (vs : List Value) (ls : List (List Int)), len ≤ reachBytes ∧ vs.length = len ∧ ls.length = len ∧ (∀ bs ∈ ls, (∀ y ∈ bs, 0 ≤ y ∧ y < 256) ∧ bs.length ≤ reachBytes) ∧ (textsR (.slice a len cap) vs ls).ok w := by
  obtain ⟨fuel, h⟩ := h
  have hlen := sliceLen ht hb2 h hs
  rcases Go.Deep.open_slice ht h with ⟨hcs, _⟩ | ⟨ad, l, c, m, n, D, Pl, hcs, _, hl, hm, hmm, hxx, hi⟩
  · simp [Value.cells] at hcs
    obtain ⟨rfl, rfl, rfl⟩ := hcs
    exact ⟨[], [], Nat.zero_le _, rfl, rfl, (fun xs hx => nomatch hx), Rd.nil _ _, fun i v bs h => by simp at h⟩
  · simp [Value.cells] at hcs
    obtain ⟨rfl, rfl, rfl⟩ := hcs
    have hml : len ≤ m := by rw [hmm]; split <;> omega
    have key : ∀ i, i < len → ∃ (v : Value) (bs : List Int), w.cells? base (ad.add (i * 1)) 1 = some [v] ∧ (∀ y ∈ bs, 0 ≤ y ∧ y < 256) ∧ bs.length ≤ reachBytes ∧ Rd w 1 v bs.length (ints .u8 bs) := by
      intro i hlt
      obtain ⟨cs', h1, h2⟩ := hi i (by omega)
      rw [hc] at h1
      have hsl : ∃ a1 l1 c1, cs' = [.slice a1 l1 c1] := by
        rcases Go.Deep.open_slice he h2 with ⟨rfl, _⟩ | ⟨ad1, l1, c1, _, _, _, _, rfl, _⟩
        · exact ⟨_, _, _, rfl⟩
        · exact ⟨_, _, _, rfl⟩
      obtain ⟨a1, l1, c1, rfl⟩ := hsl
      obtain ⟨xs, hxl, hxs, hr⟩ := open_u8s (x := D i) (p := Pl i) he hu hc2 ⟨n, h2⟩
      subst hxl
      refine ⟨_, xs, h1, hxs, sliceLen he hb h2 (fun n hn => hs n ?_), hr⟩
      have hx : x = .slice ((List.range len).map D) ((List.range (m - len)).map fun j => D (len + j)) := congrArg Prod.fst hxx
      rw [hx]
      simp only [DataW.weights, ht]
      exact List.mem_cons.2 (.inr (List.mem_append.2 (.inl (weightsAll_mem (List.mem_map.2 ⟨i, List.mem_range.2 hlt, rfl⟩) hn))))
    obtain ⟨f, hf⟩ : ∃ f : Nat → Value × List Int, ∀ i, i < len → w.cells? base (ad.add (i * 1)) 1 = some [(f i).1] ∧ (∀ y ∈ (f i).2, 0 ≤ y ∧ y < 256) ∧ (f i).2.length ≤ reachBytes ∧ Rd w 1 (f i).1 (f i).2.length (ints .u8 (f i).2) :=
      ⟨fun i => if h : i < len then ((key i h).choose, (key i h).choose_spec.choose) else (.bool false, []), fun i h => by
        simp only [h, dif_pos]
        exact (key i h).choose_spec.choose_spec⟩
    have hv : ∀ i v, ((List.range len).map fun i => (f i).1)[i]? = some v → i < len ∧ v = (f i).1 := fun i v h => by
      have hlt : i < len := by have := (List.getElem?_eq_some_iff.1 h).1; simpa using this
      rw [List.getElem?_map, List.getElem?_range hlt] at h
      exact ⟨hlt, by simpa using h.symm⟩
    have hb : ∀ i v, ((List.range len).map fun i => (f i).2)[i]? = some v → i < len ∧ v = (f i).2 := fun i v h => by
      have hlt : i < len := by have := (List.getElem?_eq_some_iff.1 h).1; simpa using this
      rw [List.getElem?_map, List.getElem?_range hlt] at h
      exact ⟨hlt, by simpa using h.symm⟩
    refine ⟨(List.range len).map fun i => (f i).1, (List.range len).map fun i => (f i).2, hlen, by simp, by simp, fun bs hbs => ?_, ?_, fun i v bs h1 h2 => ?_⟩
    · obtain ⟨i, hi⟩ := List.getElem?_of_mem hbs
      obtain ⟨hlt, rfl⟩ := hb i bs hi
      exact ⟨(hf i hlt).2.1, (hf i hlt).2.2.1⟩
    · rw [show ((List.range len).map fun i => (f i).2).length = len by simp]
      refine ⟨by simp, .inr ⟨ad, cap, rfl, hl, hm, fun j u hj => ?_⟩⟩
      obtain ⟨hlt, rfl⟩ := hv j u hj
      have hcell := (cells_get (hf j hlt).1).2 0 _ rfl
      have hs : ad.spot = none := by
        have hc0 := (cells_get (hf 0 (by omega)).1).2 0 _ rfl
        have e2 : (ad.add (0 * 1)).add 0 = ad := by simp [Addr.add]
        rw [e2] at hc0
        exact spot_none hc0
      refine ⟨hs, ?_⟩
      obtain ⟨b, off, spt⟩ := ad
      cases hs
      rw [Addr.add_lit, Addr.add_lit] at hcell
      simpa using hcell
    · obtain ⟨hlt, rfl⟩ := hv i v h1
      obtain ⟨_, rfl⟩ := hb i bs h2
      exact (hf i hlt).2.2.2
end
end Go.Proofs.YtfobhdmhjjafcaaGreatDoorRR
