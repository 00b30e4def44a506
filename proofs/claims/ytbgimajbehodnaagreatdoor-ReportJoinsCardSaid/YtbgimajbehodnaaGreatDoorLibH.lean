/- Owned rows shifted in themselves: copy and append within a row, rows made longer into their spare cells, rows grown while the old one lives on; calls of the library that the model answers at once: rules. -/
import Derived.Test.YtbgimajbehodnaaGreatDoorLibI
import Derived.Test.YtbgimajbehodnaaGreatDoorLibK
import Derived.Lib.Overlaps
namespace Go.Proofs.YtbgimajbehodnaaGreatDoor
open Go Go.RowKit

theorem sub0 {ao : Option Addr} {n h cap s : Nat} : subS (.slice ao n cap) 0 h cap s = .slice ao h cap := by
  unfold subS
  cases ao with
  | none => simp
  | some a => simp [Addr.add]

theorem run_copy_rowS {P : Program} (w : World) (dT sT ty elem : TypeId) (g o dLen dCap : Nat) (a : Addr) (sLen sCap : Nat) (cur : Array Value) (t : TypeId) (size k : Nat) (cs : List Value)
    (hu : P.underlying dT = some (.slice elem)) (hs : (P.info? elem).map (·.size) = some size)
    (hg : w.heap[g]? = some (.cells cur t (0, 0))) (hk : Nat.min sLen dLen = k) (hn : cs.length = k * size)
    (hsrc : ∀ j v, cs[j]? = some v → w.cell? (a.add j) = some v) (hfit : o + cs.length ≤ cur.size) (h1 : ∀ v ∈ cs, v.oneCell' = true) :
    (Builtin.copy_ #[dT, sT] ty #[.slice (some ⟨g, o, none⟩) dLen dCap, .slice (some a) sLen sCap]).run P w =
      .ok (goInt k) (w.setRow g (cur.toList.take o ++ cs ++ cur.toList.drop (o + cs.length)).toArray) := by
  subst hk
  have hl := run_loadCells_list (P := P) w a cs hsrc
  have hst := run_storeCells_at P g o t cs 0 cur w hg (by simpa using hfit) h1
  cases hq : P.info? elem with
  | none => simp [hq] at hs
  | some i =>
    have hi : i.size = size := by simpa [hq] using hs
    simp [Builtin.copy_, run_underlying hu, Builtin.lenOf, Builtin.firstCells, sizeOf, typeInfo, hq, hi, ← hn, hl, hst]

theorem run_copy_zero {P : Program} (w : World) (dT sT ty elem : TypeId) (ao bo : Option Addr) (dLen dCap sLen sCap : Nat) (hu : P.underlying dT = some (.slice elem)) (hs : ((P.info? elem).map (·.size)).isSome = true) (hn : Nat.min sLen dLen = 0) :
    (Builtin.copy_ #[dT, sT] ty #[.slice ao dLen dCap, .slice bo sLen sCap]).run P w = .ok (goInt 0) w := by
  cases hq : P.info? elem with
  | none => simp [hq] at hs
  | some i => cases ao <;> cases bo <;> simp [Builtin.copy_, run_underlying hu, Builtin.lenOf, Builtin.firstCells, sizeOf, typeInfo, hq, storeCells, hn, loadCells, loadCellsFrom]

/-- A row, some of its cells said anew. -/
theorem Sown.seg {w : World} {e size b off n cap l k : Nat} {cs ys cs' : List Value} {cur : Array Value} (hb : w.heap[b]? = some (.cells cur e (0, 0))) (hlen : cs.length = n * size) (g1 : n ≤ cap) (g2 : cap ≤ maxLen) (g3 : off + cap * size ≤ cur.size) (g4 : ∀ j u, cs[j]? = some u → cur[off + j]? = some u)
    (hk : l + k ≤ n) (hy : ys.length = k * size) (he : cs.take (l * size) ++ ys ++ cs.drop ((l + k) * size) = cs') :
    Sown (w.setRow b (cur.toList.take (off + l * size) ++ ys ++ cur.toList.drop (off + l * size + ys.length)).toArray) e size (.slice (some ⟨b, off, none⟩) n cap) n cs' := by
  have e1 : (l + k) * size = l * size + ys.length := by rw [Nat.add_mul, hy]
  have e2 : l * size + ys.length ≤ n * size := by rw [← e1]; exact Nat.mul_le_mul_right _ hk
  have e3 : n * size ≤ cap * size := Nat.mul_le_mul_right _ g1
  have hcl : cur.toList.length = cur.size := Array.length_toList
  rw [e1] at he
  subst he
  refine ⟨by rw [List.length_append, List.length_append, List.length_take, List.length_drop]; omega, .inr ⟨b, off, cap, _, rfl, setRow_heap w b cur _ e _ hb, g1, g2, by rw [List.size_toArray, List.length_append, List.length_append, List.length_take, List.length_drop]; omega, fun i u hi => ?_⟩⟩
  rw [List.getElem?_toArray]
  exact segPut g4 (by omega) (by omega) i u hi

section
variable {c : Cx} {Q : SQ} {env : Env} {ds : List Deferred} {H F A : List Res} {ops : Array Oper} {rest : List Oper} {d : Nat} {op : Op} {dst : Option Tmp} {ty : TypeId} {pos : String} {af : Array Edge} {g : Option (Nat × Bool)}

theorem WL.viewX {l : List Oper} {α : Type} {φ : α → Prop} {H' : α → List Res} (h : ∀ w, OK c.w0 c.S H w → ∃ x, φ x ∧ OK c.w0 c.S (H' x) w) (k : ∀ x, φ x → WL c ops Q l env ds (H' x)) : WL c ops Q l env ds H :=
  ⟨fun a w ha hw => by obtain ⟨x, hx, h2⟩ := h w hw; exact (k x hx).run a w ha h2⟩
theorem WC.viewX {l : Code} {α : Type} {φ : α → Prop} {H' : α → List Res} (h : ∀ w, OK c.w0 c.S H w → ∃ x, φ x ∧ OK c.w0 c.S (H' x) w) (k : ∀ x, φ x → WC c l Q env ds (H' x)) : WC c l Q env ds H :=
  ⟨fun a w ha hw => by obtain ⟨x, hx, h2⟩ := h w hw; exact (k x hx).run a w ha h2⟩
theorem OK.apart {w0 : World} {S : Pm} {w : World} {r s : Res} (hw : OK w0 S H w) (t : TakeL H [r, s] F) : ∀ k, r.wr k → s.fp k → False := by
  have h := (hw.perm t.perm).dis
  exact fun k a b => ((List.pairwise_cons.1 h).1 s (by simp)).1 k a b
theorem OK.extend {w0 : World} {S : Pm} {w : World} {e size n m cap : Nat} {ao : Option Addr} {cs : List Value} (h : OK w0 S H w) (t : Take1 H (ownR (.slice ao n cap) e size n cs) F) (hm : n + m ≤ cap) :
    ∃ ys : List Value, ys.length = m * size ∧ OK w0 S (ownR (.slice ao (n + m) cap) e size (n + m) (cs ++ ys) :: F) w := by
  have hs : Sown w e size (.slice ao n cap) n cs := h.get t
  have key : ∃ ys : List Value, ys.length = m * size ∧ Sown w e size (.slice ao (n + m) cap) (n + m) (cs ++ ys) := by
    rcases hs.2 with ⟨hv, h0⟩ | ⟨b, off, cap', cur, hv, hb, g1, g2, g3, g4⟩
    · cases hv
      obtain rfl : m = 0 := by omega
      exact ⟨[], by simp, by simpa using hs⟩
    · cases hv
      have e1 : (n + m) * size ≤ cap * size := Nat.mul_le_mul_right _ hm
      rw [Nat.add_mul] at e1
      have hl := hs.1
      refine ⟨(cur.toList.drop (off + n * size)).take (m * size), by rw [List.length_take, List.length_drop, Array.length_toList]; omega, by rw [List.length_append, hl, List.length_take, List.length_drop, Array.length_toList, Nat.add_mul]; omega, .inr ⟨b, off, cap, cur, rfl, hb, hm, g2, g3, fun j u hj => ?_⟩⟩
      by_cases hj2 : j < cs.length
      · rw [List.getElem?_append_left hj2] at hj; exact g4 j u hj
      · rw [List.getElem?_append_right (by omega), List.getElem?_take] at hj
        split at hj
        · rw [List.getElem?_drop, show off + n * size + (j - cs.length) = off + j by omega] at hj
          simpa using hj
        · cases hj
  obtain ⟨ys, h1, h2⟩ := key
  exact ⟨ys, h1, h.recast t (fun _ => h2) (fun k hk => by cases ao <;> exact hk)⟩

/-- copy(s[l:], ..) into an owned row; what is copied may lie in the row itself. -/
theorem To.copyOwn {d s : Operand} {dT sT e : TypeId} {size : Nat} (hu : c.P.underlying dT = some (.slice e)) (hsz : (c.P.info? e).map (·.size) = some size) {ao : Option Addr} {n cap l m k : Nat} {cs cs' : List Value} {sv : Value} {news : List Value}
    (hd : ev env d = some (subS (.slice ao n cap) l n cap size)) (hs : ev env s = some sv) (tk : Take1 H (ownR (.slice ao n cap) e size n cs) F) (hr : Reads c H sv size m news) (h1 : ∀ u ∈ news.take (k * size), u.oneCell' = true) (hl : l ≤ n) (hk : Nat.min m (n - l) = k)
    (he : cs.take (l * size) ++ news.take (k * size) ++ cs.drop ((l + k) * size) = cs') :
    To c env ds H ⟨dst, .call { callee := .builtin .copy, args := #[d, s], argTypes := #[dT, sT] }, ty, pos, af, g⟩ (fun _ : Unit => .int .i64 (k : Nat)) (fun _ => ownR (.slice ao n cap) e size n cs' :: F) := fun a w ha hw => by
  have hown : Sown w e size (.slice ao n cap) n cs := hw.get tk
  have r := hr w hw
  have hkn : k ≤ n - l := by rw [← hk]; exact Nat.min_le_right _ _
  have hkm : k ≤ m := by rw [← hk]; exact Nat.min_le_left _ _
  have key : ∃ w', (Builtin.copy_ #[dT, sT] ty #[subS (.slice ao n cap) l n cap size, sv]).run c.P w = .ok (.int .i64 (k : Nat)) w' ∧ OK c.w0 c.S (ownR (.slice ao n cap) e size n cs' :: F) w' := by
    obtain ⟨so, sc, rfl, hsc, _⟩ := r.form
    by_cases hk0 : k = 0
    · subst hk0
      have hsome : ((c.P.info? e).map (·.size)).isSome = true := by rw [hsz]; rfl
      refine ⟨w, run_copy_zero w dT sT ty e _ so _ _ m sc hu hsome hk, ?_⟩
      have : cs' = cs := by rw [← he]; simp
      rw [this]
      exact hw.recast tk (fun h => h) (fun k hk => hk)
    · rcases hown.2 with ⟨hv, h0⟩ | ⟨b, off, cap', cur, hv, hb, g1, g2, g3, g4⟩
      · omega
      · cases hv
        have hne : ¬ cap = l := by omega
        have hlk : (l + k) * size ≤ cap * size := Nat.mul_le_mul_right _ (by omega)
        have hnews := r.1
        have hkms : k * size ≤ m * size := Nat.mul_le_mul_right _ hkm
        have hyl : (news.take (k * size)).length = k * size := by rw [List.length_take, hnews]; omega
        rcases r.2 with ⟨he', h0'⟩ | ⟨ad, cap', he', k1, k2, k3⟩
        · omega
        · cases he'
          have hv2 : subS (.slice (some ⟨b, off, none⟩) n cap) l n cap size = .slice (some ⟨b, off + l * size, none⟩) (n - l) (cap - l) := by
            simp [subS, hne, Addr.add_lit]
          rw [hv2]
          refine ⟨_, run_copy_rowS (P := c.P) w dT sT ty e b (off + l * size) (n - l) (cap - l) ad m sc cur e size k (news.take (k * size)) hu hsz hb hk hyl (fun j v hv => ?_) (by rw [hyl]; rw [Nat.add_mul] at hlk; omega) h1, ?_⟩
          · have hv' : news[j]? = some v := by
              rw [List.getElem?_take] at hv
              split at hv
              · exact hv
              · cases hv
            obtain ⟨q1, q2⟩ := k3 j v hv'
            obtain ⟨b2, o2, sp⟩ := ad
            cases q1
            rw [Addr.add_lit]; exact q2
          · exact hw.turn tk ⟨rfl, rfl, rfl, by simp, fun k _ hk => setRow_other w b k _ (fun e => hk e.symm)⟩ (Sown.seg hb hown.1 g1 g2 g3 g4 (by omega) hyl he) (fun k hk => .inl hk)
  obtain ⟨w', h2, h3⟩ := key
  refine ⟨(), w', ?_, h3⟩
  simp only [execOp, resolve, invoke, builtin, Sem.run_bind, Sem.run_pure, Result.andThen_ok, List.map_toArray, List.map_cons, List.map_nil, ha.ev hd, ha.ev hs, h2]

/-- append(s[:i], make(..)...) that has no room: a new row; the old one is as it was. -/
theorem To.appendZN {s x : Operand} {t tn e : TypeId} {kn : IntKind} {z : Value} {size bytes : Nat} (hT : SlT c.P t e z size bytes) (htn : c.P.underlying tn = some (.int kn)) {ao : Option Addr} {n cap m i : Nat} {k : IntKind} {xs : List Value} (hs : ev env s = some (.slice ao i cap)) (hx : ev env x = some (.int k (m : Nat)))
    (tk : Take1 H (ownR (.slice ao n cap) e size n xs) F) (hi : i ≤ n) (h0 : 0 < n) (h0m : 0 < m) (hg : cap < i + m) {N : Nat} (hN : i + m = N) {zs : List Value} (hz : xs.take (i * size) ++ (Builtin.zeroCells z.cells m).toList = zs) (h63 : N ≤ maxLen) (hb : N * bytes ≤ 140737488355328) :
    To c env ds H ⟨dst, .call { callee := .builtin .append, args := #[s, x], argTypes := #[t, tn] }, ty, pos, af, g⟩ (fun p : { p : Nat × Nat // N ≤ p.2 } => .slice (some ⟨p.1.1, 0, none⟩) N p.1.2) (fun p => ownR (.slice (some ⟨p.1.1, 0, none⟩) N p.1.2) e size N zs :: H) := fun a w ha hw => by
  subst hN hz
  obtain ⟨ht, ⟨inf, hi1, hz, rfl, rfl⟩, hzs, hsz⟩ := hT
  have hown : Sown w e inf.size (.slice ao n cap) n xs := hw.get tk
  have hl := hown.1
  rcases hown.2 with ⟨he, rfl⟩ | ⟨b, o, cap', cur, he, hgb, hnc, hcm2, hfit, hcur⟩
  · omega
  cases he
  have his : i * inf.size ≤ n * inf.size := Nat.mul_le_mul_right _ hi
  have hlo : (xs.take (i * inf.size)).length = i * inf.size := by rw [List.length_take, hl]; omega
  have holds : ∀ j u, (xs.take (i * inf.size))[j]? = some u → w.cell? ((⟨b, o, none⟩ : Addr).add j) = some u := fun j u hj => by
    rw [Addr.add_lit, cell_of_row w b (o + j) cur e (0, 0) hgb]
    rw [List.getElem?_take] at hj
    split at hj
    · exact hcur j u hj
    · cases hj
  have hsmall : i + m ≤ 9223372036854775807 := by simp only [maxLen] at h63; omega
  have hm : m * inf.bytes ≤ 281474976710656 := by rw [Nat.add_mul] at hb; omega
  have hr := run_append_grow_zeros (P := c.P) w t tn ty e inf z k kn ht htn hi1 hz ⟨b, o, none⟩ i cap (xs.take (i * inf.size)) hlo holds m h0m hsz (by omega) (by omega) hm (growslice_fits (by omega) hb)
  have hge := grownCap_ge w (i + m) cap e
  have hcm : grownCap w (i + m) cap e ≤ maxLen := grownCap_le_maxLen w (i + m) cap e h63
  refine ⟨⟨(w.heap.size, grownCap w (i + m) cap e), hge⟩, w.drew.alloc (.cells ((xs.take (i * inf.size)).toArray ++ Builtin.zeroCells z.cells m ++ Builtin.zeroCells z.cells (grownCap w (i + m) cap e - (i + m))) e), ?_, ?_⟩
  · simp only [execOp, resolve, invoke, builtin, Sem.run_bind, Sem.run_pure, Result.andThen_ok, List.map_toArray, List.map_cons, List.map_nil, ha.ev hs, ha.ev hx, hr]
  · have h1 := ((hw.drew).addNil e inf.size)
    have hsown : Sown (w.drew.alloc (.cells ((xs.take (i * inf.size)).toArray ++ Builtin.zeroCells z.cells m ++ Builtin.zeroCells z.cells (grownCap w (i + m) cap e - (i + m))) e)) e inf.size (.slice (some ⟨w.heap.size, 0, none⟩) (i + m) (grownCap w (i + m) cap e)) (i + m) (xs.take (i * inf.size) ++ (Builtin.zeroCells z.cells m).toList) := by
      refine ⟨by rw [List.length_append, hlo, Array.length_toList, size_zeroCells, hzs, Nat.add_mul], .inr ⟨w.heap.size, 0, _, _, rfl, heap_alloc_new w.drew _, hge, hcm, ?_, ?_⟩⟩
      · simp only [Array.size_append, List.size_toArray, size_zeroCells, hzs, hlo, ← Nat.add_mul, Nat.zero_add]
        apply Nat.le_of_eq
        congr 1
        omega
      · intro j u hj
        simp only [Nat.zero_add]
        rw [Array.getElem?_append_left (by simp only [Array.size_append, List.size_toArray]; have := (List.getElem?_eq_some_iff.1 hj).1; simpa using this)]
        rw [← Array.getElem?_toList]
        simpa using hj
    exact h1.turn .head (Chg.alloc _ _ _) hsown (fun k hk => .inr (by cases hk; exact Nat.le_refl _))

/-- A call that the model answers at once. -/
theorem Yl.callExt {f : Operand} {xs : List Operand} {ts : Array TypeId} {fid : FuncId} {vs : List Value} {v : Value}
    (hf : ev env f = some (.func (.func fid) #[] #[])) (hx : evs env xs = some vs) (h : ∀ w, OK c.w0 c.S H w → (callFunc fid vs.toArray).run c.P w = .ok (.value v) w) :
    Yl c env ds H ⟨dst, .call { callee := .value f, args := xs.toArray, argTypes := ts }, ty, pos, af, g⟩ v := fun a w ha hw => by
  simp only [execOp, resolve, Deferred.ofValue, ha.ev hf, invoke, Sem.run_bind, Sem.run_pure, Result.andThen_ok, List.map_toArray, ha.evs hx, Array.empty_append, List.append_toArray, Array.append_empty]
  exact h w hw
/-- slices.overlaps of a block that is known whole and an owned row. -/
theorem OK.overlaps {P : Program} {w0 : World} {S : Pm} {w : World} {tS tR e : TypeId} {size : Nat} (hw : OK w0 S H w) (ht : P.underlying tS = some (.slice e)) (hz : (P.info? e).map (·.size) = some size) {bv T la ca : Nat} {xs : List Value} {ao : Option Addr} {n cap l : Nat} {cs : List Value} (t : TakeL H [blkR bv T xs, ownR (.slice ao n cap) e size n cs] F) (hn : 0 < n) (hs0 : 0 < size) :
    (Extern.SlicesOverlaps.overlaps #[tS, tS] #[tR] #[.slice (some ⟨bv, 0, none⟩) la ca, subS (.slice ao n cap) l n cap size]).run P w = .ok (.bool false) w := by
  have hap := hw.apart t
  have hb : w.heap[bv]? = some (.cells xs.toArray T (0, 0)) := hw.all (blkR bv T xs) (t.perm.mem_iff.2 (by simp))
  have hown : Sown w e size (.slice ao n cap) n cs := hw.all (ownR (.slice ao n cap) e size n cs) (t.perm.mem_iff.2 (by simp))
  have hz' : ∀ w, (Go.sizeOf e).run P w = .ok size w := fun w => by
    cases hq : P.info? e with
    | none => rw [hq] at hz; cases hz
    | some q => rw [hq] at hz; simp at hz; simp [sizeOf, typeInfo, hq, hz]
  rcases hown.2 with ⟨hv, h0⟩ | ⟨b, off, cap', cur, hv, hgb, g1, g2, g3, g4⟩
  · omega
  · cases hv
    have hne : bv ≠ b := fun e => hap bv rfl (by rw [e]; exact rfl)
    have hcs : 1 * size ≤ cap * size := Nat.mul_le_mul_right _ (by omega)
    have hfz : ∀ k, w.frozen? ⟨bv, k, none⟩ = false := fun k => frozen_of_row w bv k _ T hb
    simp only [subS]
    split
    · exact Lib.run_overlaps_apart w tS tR e ht size hz' ⟨bv, 0, none⟩ ⟨b, off, none⟩ _ _ _ _ hne T e xs.toArray.size cur.size (by simp [World.shape?, hb]) (by simp [World.shape?, hgb]) (by omega) (hfz _) (hfz _)
    · rw [Option.map_some, Addr.add_lit]
      exact Lib.run_overlaps_apart w tS tR e ht size hz' ⟨bv, 0, none⟩ ⟨b, _, none⟩ _ _ _ _ hne T e xs.toArray.size cur.size (by simp [World.shape?, hb]) (by simp [World.shape?, hgb]) (by omega) (hfz _) (hfz _)
end

/-! ### What shifts come to -/
theorem shiftL {cs ys x : List Value} {s n i : Nat} (h : cs.length = n * s) (hy : ys.length = 1 * s) (hx : x.length = 1 * s) (hi : i ≤ n) (hs : 0 < s) :
    (((cs ++ ys).take ((i + 1) * s) ++ ((cs ++ ys).drop (i * s)).take ((n - i) * s) ++ (cs ++ ys).drop ((i + 1 + (n - i)) * s)).take (i * s) ++ x.take (1 * s) ++ ((cs ++ ys).take ((i + 1) * s) ++ ((cs ++ ys).drop (i * s)).take ((n - i) * s) ++ (cs ++ ys).drop ((i + 1 + (n - i)) * s)).drop ((i + 1) * s)) = cs.take (i * s) ++ x ++ cs.drop (i * s) := by
  have e1 : i * s ≤ n * s := Nat.mul_le_mul_right _ hi
  have e2 : (n - i) * s = n * s - i * s := Nat.sub_mul ..
  have e3 : (i + 1) * s = i * s + s := by rw [Nat.add_mul, Nat.one_mul]
  have e4 : (i + 1 + (n - i)) * s = n * s + s := by rw [show i + 1 + (n - i) = n + 1 by omega, Nat.add_mul, Nat.one_mul]
  have a1 : (cs ++ ys).drop ((i + 1 + (n - i)) * s) = [] := by rw [List.drop_eq_nil_iff, List.length_append, e4]; omega
  have a2 : ((cs ++ ys).drop (i * s)).take ((n - i) * s) = cs.drop (i * s) := by
    rw [List.drop_append_of_le_length (by omega), List.take_left' (by rw [List.length_drop]; omega)]
  have a3 : ((cs ++ ys).take ((i + 1) * s)).length = (i + 1) * s := by rw [List.length_take, List.length_append]; omega
  rw [a1, a2, List.append_nil, List.drop_left' a3, List.take_append_of_le_length (by omega), List.take_take, Nat.min_eq_left (by omega), List.take_append_of_le_length (by omega), List.take_of_length_le (l := x) (by omega)]
theorem growL {cs Z x : List Value} {s n i : Nat} (h : cs.length = n * s) (hZ : Z.length = (n + 1 - i) * s) (hx : x.length = 1 * s) (hi : i ≤ n) (hs : 0 < s) :
    (((cs.take (i * s) ++ Z).take (i * s) ++ x.take (1 * s) ++ (cs.take (i * s) ++ Z).drop ((i + 1) * s)).take ((i + 1) * s) ++ (cs.drop (i * s)).take ((n - i) * s) ++ ((cs.take (i * s) ++ Z).take (i * s) ++ x.take (1 * s) ++ (cs.take (i * s) ++ Z).drop ((i + 1) * s)).drop ((i + 1 + (n - i)) * s)) = cs.take (i * s) ++ x ++ cs.drop (i * s) := by
  have e1 : i * s ≤ n * s := Nat.mul_le_mul_right _ hi
  have e2 : (n - i) * s = n * s - i * s := Nat.sub_mul ..
  have e3 : (i + 1) * s = i * s + s := by rw [Nat.add_mul, Nat.one_mul]
  have e4 : (i + 1 + (n - i)) * s = n * s + s := by rw [show i + 1 + (n - i) = n + 1 by omega, Nat.add_mul, Nat.one_mul]
  have e5 : (n + 1 - i) * s = n * s + s - i * s := by rw [Nat.sub_mul, Nat.add_mul, Nat.one_mul]
  have a0 : (cs.take (i * s)).length = i * s := by rw [List.length_take]; omega
  have a1 : (cs.take (i * s) ++ Z).take (i * s) = cs.take (i * s) := List.take_left' a0
  rw [a1, List.take_of_length_le (l := x) (by omega)]
  have a2 : (cs.take (i * s) ++ x).length = (i + 1) * s := by rw [List.length_append, a0, hx]; omega
  rw [List.take_left' a2, List.take_of_length_le (l := cs.drop (i * s)) (by rw [List.length_drop]; omega)]
  have a3 : (cs.take (i * s) ++ x ++ (cs.take (i * s) ++ Z).drop ((i + 1) * s)).drop ((i + 1 + (n - i)) * s) = [] := by
    rw [List.drop_eq_nil_iff, List.length_append, a2, List.length_drop, List.length_append, a0, hZ]; omega
  rw [a3, List.append_nil]
end Go.Proofs.YtbgimajbehodnaaGreatDoor
