/- Arguments that came in, of types of numbers and bools, arrays and structs of them, and slices of those: general lemmas of this claim's own, about no program in particular. -/
import Derived.Test.YtcplbkbimpiioaaGreatDoorLibY
import Derived.OpenShut
import Derived.ChangeSlices
import Derived.Deep.Slices
namespace Go.Proofs.YtcplbkbimpiioaaGreatDoor
open Go Go.RowKit

theorem Fits1.chunks {ks : List Leaf} : ∀ (n : Nat) {cs : List Value}, cs.length = n * ks.length → (∀ i, i < n → Fits1 ks ((cs.drop (i * ks.length)).take ks.length)) → Fits1 (List.replicate n ks).flatten cs
  | 0, cs, hl, _ => by
    have : cs = [] := List.eq_nil_of_length_eq_zero (by simpa using hl)
    subst this
    simp [Fits1]
  | n + 1, cs, hl, h => by
    rw [List.replicate_succ, List.flatten_cons, ← List.take_append_drop ks.length cs]
    refine Fits1.mk (by simpa using h 0 (by omega)) (Fits1.chunks n (by rw [List.length_drop, hl, Nat.succ_mul]; omega) fun i hi => ?_)
    have := h (i + 1) (by omega)
    rw [List.drop_drop]
    rw [Nat.succ_mul, Nat.add_comm] at this
    exact this

theorem OK.ro {A : List Res} {w : World} (h : ∀ r ∈ A, r.ok w) (hw : ∀ r ∈ A, ∀ k, ¬ r.wr k) : OK w (fpL A) A w := by
  refine ⟨Chg.refl _ _, h, fun r hr k hk _ => ⟨r, hr, hk⟩, fun r hr k hk _ => ⟨r, hr, hk⟩, ?_⟩
  clear h
  induction A with
  | nil => exact .nil
  | cons a A ih => exact List.pairwise_cons.2 ⟨fun s hs => ⟨fun k ha _ => hw a (by simp) k ha, fun k _ hb => hw s (by simp [hs]) k hb⟩, ih (fun r hr => hw r (by simp [hr]))⟩

section
variable {H : Type} {enc : TypeId × Value → H} {P : Program} {w : World} {base : Nat} {sp : Nat → Bool} {held : Bool}

theorem trod_flat : ∀ (d : Nat) {t : TypeId} {ks : List Leaf} {fuel : Nat} {cs : List Value} {x : DataW H × List MemPlace}, flatT P d t = some ks → DataW.trod enc P w base sp held fuel t cs = some x → Fits1 ks cs
  | 0, _, _, _, _, _, h, _ => by simp [flatT] at h
  | d + 1, t, ks, fuel, cs, x, h, ht => by
    unfold flatT at h
    split at h
    · rename_i hu
      cases h
      obtain ⟨b, rfl, _⟩ := DataW.trod_bool hu ht
      exact ⟨trivial, trivial⟩
    · rename_i q hu
      cases h
      obtain ⟨n, rfl, _, hw⟩ := DataW.trod_int hu ht
      exact ⟨⟨rfl, hw⟩, trivial⟩
    · rename_i n e hu
      split at h
      · rename_i ks' hk
        split at h
        · rename_i hc
          cases h
          obtain ⟨xs, m, rfl, _, hl, hx, hi⟩ := DataW.trod_array hu ht
          refine Fits1.chunks n (by rw [hl, hc.2]) fun i hlt => ?_
          have := hi i hlt
          rw [List.getElem?_eq_getElem (by omega), ← hc.1] at this
          exact trod_flat d hk this
        · cases h
      · cases h
    · rename_i fs hu
      split at h
      · rename_i ks' hk
        split at h
        · rename_i hc
          cases h
          obtain ⟨xs, m, rfl, _, hl, hx, hi⟩ := DataW.trod_struct hu ht
          have key : ∀ (l : List Field) (off : Nat) (ls : List Leaf), flatFs P (flatT P d) l off = some ls → (∀ f ∈ l, ∃ y, DataW.trod enc P w base sp held m f.type ((cs.drop f.offset).take (P.cellsOf f.type)) = some y) → Fits1 ls ((cs.drop off).take ls.length) := by
            intro l
            induction l with
            | nil =>
              intro off ls h1 _
              cases h1
              simp [Fits1]
            | cons f l ih =>
              intro off ls h1 h2
              unfold flatFs at h1
              split at h1
              · rename_i k1 r1 e1 e2
                split at h1
                · rename_i hcc
                  cases h1
                  obtain ⟨y, hy⟩ := h2 f (by simp)
                  have a1 := trod_flat d e1 hy
                  have a2 := ih _ _ e2 (fun g hg => h2 g (by simp [hg]))
                  rw [List.length_append, List.take_add]
                  rw [hcc.1, ← hcc.2.1] at a1
                  rw [← hcc.2.1, ← List.drop_drop] at a2
                  exact Fits1.mk a1 a2
                · cases h1
              · cases h1
          have := key fs.toList 0 _ hk (fun f hf => by
            obtain ⟨i, hif⟩ := List.getElem?_of_mem hf
            have h1 := hi i f (by simpa using hif)
            have hlt : i < xs.length := by
              have := (List.getElem?_eq_some_iff.1 hif).1
              simp at this
              omega
            rw [List.getElem?_eq_getElem hlt] at h1
            exact ⟨_, h1⟩)
          rw [List.drop_zero, List.take_of_length_le (by omega)] at this
          exact this
        · cases h
      · cases h
    · cases h

theorem cells_get {a : Addr} {n : Nat} {cs : List Value} (h : w.cells? base a n = some cs) : cs.length = n ∧ ∀ k u, cs[k]? = some u → w.cell? (a.add k) = some u := by
  unfold World.cells? at h
  split at h
  · have hl := mapM_some_length h
    rw [List.length_range] at hl
    refine ⟨hl, fun k u hk => ?_⟩
    have hlt : k < n := by have := (List.getElem?_eq_some_iff.1 hk).1; omega
    have := mapM_some_get h k k (by simp [hlt])
    rw [this, hk]
  · cases h

theorem spot_none {a : Addr} {u : Value} (h : w.cell? a = some u) : a.spot = none := by
  unfold World.cell? at h
  split at h
  · split at h
    · cases h
    · rename_i hn
      cases hsp : a.spot with
      | none => rfl
      | some q => rw [hsp] at hn; simp at hn
  · cases h

theorem flat_get {α : Type} {s : Nat} : ∀ {xss : List (List α)}, (∀ xs ∈ xss, xs.length = s) → ∀ {j : Nat} {u : α}, xss.flatten[j]? = some u → ∃ i xs k, xss[i]? = some xs ∧ xs[k]? = some u ∧ j = i * s + k
  | [], _, j, u, h => by simp at h
  | xs :: xss, hs, j, u, h => by
    have hl := hs xs (by simp)
    rw [List.flatten_cons] at h
    by_cases hj : j < xs.length
    · rw [List.getElem?_append_left hj] at h
      exact ⟨0, xs, j, rfl, h, by omega⟩
    · rw [List.getElem?_append_right (by omega)] at h
      obtain ⟨i, ys, k, h1, h2, h3⟩ := flat_get (fun ys hy => hs ys (by simp [hy])) h
      exact ⟨i + 1, ys, k, by simpa using h1, h2, by rw [Nat.succ_mul]; omega⟩

theorem flat_len {α : Type} {s : Nat} : ∀ {xss : List (List α)}, (∀ xs ∈ xss, xs.length = s) → xss.flatten.length = xss.length * s
  | [], _ => by simp
  | xs :: xss, hs => by
    rw [List.flatten_cons, List.length_append, hs xs (by simp), flat_len (fun ys hy => hs ys (by simp [hy])), List.length_cons, Nat.succ_mul, Nat.add_comm]

/-- A slice of such values that came in. -/
theorem open_flats {d : Nat} {t e : TypeId} {ks : List Leaf} {size : Nat} {a : Option Addr} {len cap : Nat} {x : DataW H} {p : List MemPlace} (ht : P.underlying t = some (.slice e)) (hf : flatT P d e = some ks) (hc : P.cellsOf e = size)
    (h : DataW.Trod enc P w base sp held t (.slice a len cap) x p) : ∃ xss : List (List Value), xss.length = len ∧ (∀ xs ∈ xss, Fits1 ks xs ∧ xs.length = size) ∧ Rd w size (.slice a len cap) len xss.flatten := by
  obtain ⟨fuel, h⟩ := h
  rcases Go.Deep.open_slice ht h with ⟨hcs, _⟩ | ⟨ad, l, c, m, n, D, Pl, hcs, _, hl, hm, hmm, _, hi⟩
  · simp [Value.cells] at hcs
    obtain ⟨rfl, rfl, rfl⟩ := hcs
    exact ⟨[], rfl, (fun xs hx => nomatch hx), Rd.nil _ _⟩
  · simp [Value.cells] at hcs
    obtain ⟨rfl, rfl, rfl⟩ := hcs
    have hml : len ≤ m := by rw [hmm]; split <;> omega
    obtain ⟨xss, hx⟩ : ∃ xss : List (List Value), xss = (List.range len).map (fun i => (w.cells? base (ad.add (i * P.cellsOf e)) (P.cellsOf e)).getD []) := ⟨_, rfl⟩
    have hget : ∀ i xs, xss[i]? = some xs → w.cells? base (ad.add (i * size)) size = some xs ∧ Fits1 ks xs := by
      intro i xs hix
      have hlt : i < len := by
        have := (List.getElem?_eq_some_iff.1 hix).1
        rw [hx] at this
        simpa using this
      obtain ⟨cs', h1, h2⟩ := hi i (by omega)
      rw [hx, List.getElem?_map] at hix
      simp [hlt, h1] at hix
      subst hix
      rw [hc] at h1
      exact ⟨h1, trod_flat d hf h2⟩
    have hsz : ∀ xs ∈ xss, Fits1 ks xs ∧ xs.length = size := by
      intro xs hm'
      obtain ⟨i, hix⟩ := List.getElem?_of_mem hm'
      exact ⟨(hget i xs hix).2, (cells_get (hget i xs hix).1).1⟩
    have hlen : xss.length = len := by rw [hx]; simp
    refine ⟨xss, hlen, hsz, ⟨by rw [flat_len (fun xs h => (hsz xs h).2), hlen], .inr ⟨ad, cap, rfl, hl, hm, fun j u hj => ?_⟩⟩⟩
    obtain ⟨i, xs, k, h1, h2, rfl⟩ := flat_get (fun xs h => (hsz xs h).2) hj
    have hcell := (cells_get (hget i xs h1).1).2 k u h2
    have hs : ad.spot = none := by
      have hpos : 0 < xss.flatten.length := by have := (List.getElem?_eq_some_iff.1 hj).1; omega
      obtain ⟨i0, xs0, k0, g1, g2, g3⟩ := flat_get (fun xs h => (hsz xs h).2) (List.getElem?_eq_getElem hpos)
      have hc0 := (cells_get (hget i0 xs0 g1).1).2 k0 _ g2
      have e0 : i0 * size = 0 := by omega
      have e1 : k0 = 0 := by omega
      rw [e0, e1] at hc0
      have e2 : (ad.add 0).add 0 = ad := by simp [Addr.add]
      rw [e2] at hc0
      exact spot_none hc0
    refine ⟨hs, ?_⟩
    obtain ⟨b, off, spt⟩ := ad
    cases hs
    rw [Addr.add_lit, Addr.add_lit, Nat.add_assoc] at hcell
    exact hcell

end

section
variable {c : Cx} {env : Env} {ds : List Deferred} {H : List Res} {dst : Option Tmp} {ty : TypeId} {pos : String} {af : Array Edge} {g : Option (Nat × Bool)}
/-- A slice's row, as an array. -/
theorem Yl.arrAt {t e : TypeId} {x : Operand} {n len cap : Nat} {ao : Option Addr} (hu : c.P.underlying t = some (.array n e)) (hx : ev env x = some (.slice ao len cap)) (h : n ≤ len) : Yl c env ds H ⟨dst, .sliceToArrayPointer t x, ty, pos, af, g⟩ (.pointer ao) := fun a w ha _ => by
  simp [execOp, ha.ev hx, Instr.arrayAt, run_underlying hu, Nat.not_lt.2 h]
theorem Yl.loadArr {t : TypeId} {x : Operand} {n len cap : Nat} {ao : Option Addr} {cs cs' : List Value} (ho : aggB c.P t n = true) (h0 : 0 < n) (hx : ev env x = some (.pointer ao)) (hr : Reads c H (.slice ao len cap) 1 len cs) (hn : n ≤ len) (he : cs.take n = cs') :
    Yl c env ds H ⟨dst, .load t x, ty, pos, af, g⟩ (.agg cs'.toArray) := fun a w ha hw => by
  subst he
  have r := hr w hw
  have hl := r.1
  rcases r.2 with ⟨hv, h0'⟩ | ⟨ad, cap', hv, h1, h2, h3⟩
  · omega
  · cases hv
    have hsp : ad.spot = none := (h3 0 (cs[0]'(by omega)) (List.getElem?_eq_getElem (by omega))).1
    obtain ⟨b, o, sp⟩ := ad
    cases hsp
    have := run_loadAt_agg (P := c.P) (cs := cs.take n) ho (by simp; omega) (b := b) (o := o) (w := w) (fun j v hj => by
      rw [List.getElem?_take] at hj
      split at hj
      · exact (h3 j v hj).2
      · cases hj)
    simp [execOp, ha.ev hx, this]
end

section
variable {c : Cx} {env : Env} {ds : List Deferred} {H F : List Res} {dst : Option Tmp} {ty : TypeId} {pos : String} {af : Array Edge} {g : Option (Nat × Bool)}
end
/-! ### A row behind an append in a region that draws: the old slice may still be read -/

def twinR (v : Value) (e size n : Nat) (cs : List Value) (o : Value) (m : Nat) (xs : List Value) : Res where
  fp := fun k => blk v k ∨ (blk o k ∧ xs ≠ [])
  wr := blk v
  sub := fun _ h => .inl h
  ok := fun w => Sown w e size v n cs ∧ Rd w size o m xs
  lt := fun w h k hk => hk.elim (h.1.lt k) (fun hk => h.2.lt' hk.2 k hk.1)
  st := fun w w' D h hc hd => ⟨h.1.chg hc (fun k hk => hd k (.inl hk)), by
    by_cases h0 : xs = []
    · exact h.2.empty h0
    · exact h.2.chg hc (fun k hk => hd k (.inr ⟨hk, h0⟩))⟩

section
variable {c : Cx} {Q : SQ} {env : Env} {ds : List Deferred} {H F A Hs : List Res} {ops : Array Oper} {rest : List Oper} {d : Nat} {op : Op} {dst : Option Tmp} {ty : TypeId} {pos : String} {af : Array Edge} {g : Option (Nat × Bool)} {fuel : Nat} {listed : Array Bool}

theorem OK.untwin {w0 : World} {S : Pm} {H F : List Res} {w : World} {v o : Value} {e size n m : Nat} {cs xs : List Value} (h : OK w0 S H w) (t : Take1 H (twinR v e size n cs o m xs) F) : OK w0 S (ownR v e size n cs :: F) w :=
  h.recast t (fun h => h.1) (fun k hk => hk)
theorem ownI {v : Value} {e size n : Nat} {cs : List Value} (tk : Take1 H (ownR v e size n cs) F) : Impl c H [rdR v size n cs] := fun w hw => OK.left (A := [_]) (hw.readOnly tk)
theorem twinI {v o : Value} {e size n m : Nat} {cs xs : List Value} (tk : Take1 H (twinR v e size n cs o m xs) F) : Impl c H [rdR o size m xs] := fun w hw =>
  OK.left (A := [_]) (hw.turnG tk (r' := rdR o size m xs) (Chg.refl _ _) ((hw.get tk).2) (fun k hk => hk.elim) (fun k hk => .inl (.inr hk)))
theorem To.appendT {s x : Operand} {t e : TypeId} {z : Value} {size bytes : Nat} (hT : SlT c.P t e z size bytes) {v xv : Value} {n m : Nat} {xs news : List Value} (hs : ev env s = some v) (hx : ev env x = some xv)
    (tk : Take1 H (ownR v e size n xs) F) (hr : Reads c H xv size m news) (h1 : ∀ u ∈ news, u.oneCell' = true) {N : Nat} (hN : n + m = N) {zs : List Value} (hz : xs ++ news = zs) (h63 : N ≤ maxLen) (hb : N * bytes ≤ 140737488355328) :
    To c env ds H ⟨dst, .call { callee := .builtin .append, args := #[s, x], argTypes := #[t, t] }, ty, pos, af, g⟩ (fun p : { p : Option Addr × Nat // N ≤ p.2 } => .slice p.1.1 N p.1.2) (fun p => twinR (.slice p.1.1 N p.1.2) e size N zs v n xs :: F) := fun a w ha hw => by
  subst hN hz
  have hown : Sown w e size v n xs := hw.get tk
  obtain ⟨ao, cap, w', hrun, h2, h3, h4, h5, h6⟩ := run_app (P := c.P) w (ty := ty) hT hown (hr w hw) h1 h63 hb
  have hold : Rd w' size v n xs := by
    rcases h6 with ⟨a0, c0, rfl, rfl⟩ | h6
    · obtain ⟨_, _, he, hc, hm⟩ := hown.rd.form
      cases he
      have hr2 := h2.rd
      refine ⟨hown.1, ?_⟩
      rcases hr2.2 with ⟨he, h0⟩ | ⟨a, cap', he, h7, h8, h9⟩
      · injection he with h10 h11 h12
        subst h10
        rcases hown.2 with ⟨hv, _⟩ | ⟨b, off, cap', cur, hv, _⟩
        · exact .inl ⟨hv, by omega⟩
        · cases hv
      · injection he with h10 h11 h12
        subst h10
        exact .inr ⟨a, c0, rfl, hc, hm, fun j u hj => h9 j u (by rw [List.getElem?_append_left (List.getElem?_eq_some_iff.1 hj).1]; exact hj)⟩
    · exact hown.rd.chg h6 (fun k _ e => e)
  refine ⟨⟨(ao, cap), Sown.le h2⟩, w', ?_, hw.turnG tk (r' := twinR (.slice ao (n + m) cap) e size (n + m) (xs ++ news) v n xs) h3 ⟨h2, hold⟩ (fun k hk => (h4 k hk).imp id (fun h => h.1)) (fun k hk => ?_)⟩
  · simp only [execOp, resolve, invoke, builtin, Sem.run_bind, Sem.run_pure, Result.andThen_ok, List.map_toArray, List.map_cons, List.map_nil, ha.ev hs, ha.ev hx, hrun]
  · rcases hk with hk | hk
    · exact (h4 k hk).imp id (fun h => h.1)
    · exact .inl hk.1
theorem WO.toI {α : Type} {i : Nat} {o : Oper} {dd : Nat} {v : α → Value} {H' : α → List Res} (hi : ops[i]? = some o) (hdst : o.dst = some dd) (hg : Gd ops env o.guard) (h : To c env ds H o v H') (hn : Nat.blt dd c.n = true) (hs : ∀ x, Impl c (H' x) Hs)
    (k : ∀ x, WD c ops Hs Q fuel (listed.setIfInBounds i true) ((dd, v x) :: env) ds (H' x)) : WO c ops Hs Q fuel listed env ds H i := fun a w ha hw hS => by
  obtain ⟨x, w', h1, h2⟩ := h a w ha hw
  have hS' := hs x w' h2
  unfold wpOp
  simp only [hi]
  rw [if_pos (hg.wanted ha)]
  refine .inl ?_
  unfold Oper.wp
  rw [h1]
  show OK c.w0 c.S Hs w' ∧ _
  rw [hdst]
  exact ⟨hS', (k x).run _ _ (ha.put hn _) h2 hS'⟩
end
end Go.Proofs.YtcplbkbimpiioaaGreatDoor
