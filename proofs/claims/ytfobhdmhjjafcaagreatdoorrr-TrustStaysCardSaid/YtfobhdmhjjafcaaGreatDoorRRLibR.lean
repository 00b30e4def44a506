/- Parts of a row's elements; calls that only read; frozen rows; two results in memory: rules. -/
import Derived.Test.YtfobhdmhjjafcaaGreatDoorRRLibQ
namespace Go.Proofs.YtfobhdmhjjafcaaGreatDoorRR
open Go Go.RowKit

/-- A place in a row, so many cells on. -/
def elemO (v : Value) (k : Nat) : Value :=
  match v with
  | .slice (some a) _ _ => .pointer (some (a.add k))
  | _ => undef
theorem elemP_O {v : Value} {j s : Nat} : elemP v j s = elemO v (j * s) := rfl

section
variable {c : Cx} {Q : SQ} {env : Env} {ds : List Deferred} {H F A : List Res} {ops : Array Oper} {rest : List Oper} {d : Nat} {op : Op} {dst : Option Tmp} {ty : TypeId} {pos : String} {af : Array Edge} {g : Option (Nat × Bool)}

theorem Yl.fieldV {t : TypeId} {x : Operand} {f off k n s : Nat} {v : Value} {cs : List Value} (h : fieldOff c.P t f = some off) (hx : ev env x = some (elemO v k)) (hr : Reads c H v s n cs) (hne : 0 < cs.length) : Yl c env ds H ⟨dst, .fieldAddr t x f, ty, pos, af, g⟩ (elemO v (k + off)) := fun a w ha hw => by
  have r := hr w hw
  rcases r.2 with ⟨rfl, rfl⟩ | ⟨ad, cap, rfl, h1, h2, h3⟩
  · have := r.1; omega
  · have hs := (h3 0 cs[0] (List.getElem?_eq_getElem hne)).1
    obtain ⟨b, o, sp⟩ := ad
    cases hs
    simp [execOp, ha.ev hx, elemO, Addr.add_lit, run_fieldAt_of h, Nat.add_assoc]
theorem Yl.loadO {t : TypeId} {x : Operand} {v u : Value} {k n s : Nat} {cs : List Value} (ho : isOne c.P t = true) (hx : ev env x = some (elemO v k)) (hr : Reads c H v s n cs) (hk : cs[k]? = some u) : Yl c env ds H ⟨dst, .load t x, ty, pos, af, g⟩ u := fun a w ha hw => by
  have r := hr w hw
  rcases r.2 with ⟨rfl, rfl⟩ | ⟨ad, cap, rfl, h1, h2, h3⟩
  · have := r.1
    simp at this
    subst this
    simp at hk
  · obtain ⟨hs, hc⟩ := h3 k u hk
    obtain ⟨b, o, sp⟩ := ad
    cases hs
    simp [execOp, ha.ev hx, elemO, Addr.add_lit, run_loadAt_one ho hc]
theorem Yl.loadON {t : TypeId} {x : Operand} {v : Value} {k n s m : Nat} {cs cs' : List Value} (ho : aggB c.P t m = true) (h0 : 0 < m) (hx : ev env x = some (elemO v k)) (hr : Reads c H v s n cs) (hk : k + m ≤ cs.length) (he : (cs.drop k).take m = cs') : Yl c env ds H ⟨dst, .load t x, ty, pos, af, g⟩ (.agg cs'.toArray) := fun a w ha hw => by
  have r := hr w hw
  rcases r.2 with ⟨rfl, rfl⟩ | ⟨ad, cap, rfl, h1, h2, h3⟩
  · have := r.1; omega
  · have hsp := (h3 0 cs[0] (List.getElem?_eq_getElem (by omega))).1
    obtain ⟨b, o, sp⟩ := ad
    cases hsp
    subst he
    have := run_loadAt_agg (P := c.P) (cs := (cs.drop k).take m) ho (by simp; omega) (b := b) (o := o + k) (w := w) (fun i v hi => by
      rw [List.getElem?_take] at hi
      split at hi
      · rw [List.getElem?_drop] at hi
        rw [Nat.add_assoc]
        exact (h3 _ v hi).2
      · cases hi)
    simp [execOp, ha.ev hx, elemO, Addr.add_lit, this]

/-! ### Calls that only read -/
theorem lift_ro {α : Type} {Φ : α → Prop} {v : α → Value} {fid : FuncId} {vs : List Value} (tk : TakeL H A F)
    (h : ∀ w, OK c.w0 c.S (A.map roR ++ F) w → Fn c.P fid vs (A.map roR) w Φ v (fun _ => [])) :
    ∀ w, OK c.w0 c.S H w → Calls c.P fid vs.toArray w fun e w' => ∃ x, Φ x ∧ e = .returned (v x) ∧ OK c.w0 c.S H w' := fun w hw => by
  have hw' := hw.perm tk.perm
  have hfz : OK c.w0 c.S (A.map roR ++ F) w := by
    refine ⟨hw'.chg, ?_, ?_, ?_, ?_⟩
    · intro r hr
      rcases List.mem_append.1 hr with hr | hr
      · obtain ⟨s, hs, rfl⟩ := List.mem_map.1 hr
        exact hw'.all s (List.mem_append_left _ hs)
      · exact hw'.all r (List.mem_append_right _ hr)
    · intro r hr k hk
      rcases List.mem_append.1 hr with hr | hr
      · obtain ⟨s, hs, rfl⟩ := List.mem_map.1 hr
        exact hk.elim
      · exact hw'.loc r (List.mem_append_right _ hr) k hk
    · intro r hr k hk
      rcases List.mem_append.1 hr with hr | hr
      · obtain ⟨s, hs, rfl⟩ := List.mem_map.1 hr
        exact hw'.locF s (List.mem_append_left _ hs) k hk
      · exact hw'.locF r (List.mem_append_right _ hr) k hk
    · have hd := hw'.dis
      rw [List.pairwise_append] at hd ⊢
      refine ⟨?_, hd.2.1, ?_⟩
      · rw [List.pairwise_map]
        exact hd.1.imp fun _ => ⟨fun k h => h.elim, fun k _ h => h.elim⟩
      · intro r hr s hs
        obtain ⟨r0, hr0, rfl⟩ := List.mem_map.1 hr
        exact ⟨fun k h => h.elim, fun k h1 h2 => (hd.2.2 r0 hr0 s hs).2 k h1 h2⟩
  refine (h w hfz).mono ?_
  rintro e w' ⟨x, h1, h2, h3⟩
  refine ⟨x, h1, h2, hw.ext (h3.chg.mono (fun k _ hk => ?_))⟩
  obtain ⟨r, hr, hk⟩ := hk
  obtain ⟨s, _, rfl⟩ := List.mem_map.1 hr
  exact hk.elim
theorem WL.callRo {f : Operand} {xs : List Operand} {ts : Array TypeId} {fid : FuncId} {cap : List Value} {vs : List Value} {α : Type} {Φ : α → Prop} {v : α → Value}
    (hf : ev env f = some (.func (.func fid) #[] cap.toArray)) (hx : evs env xs = some vs) (he : ∀ args w, (callFunc fid args).run c.P w = .ok (.enter fid args) w)
    (tk : TakeL H A F) (h : ∀ w, OK c.w0 c.S (A.map roR ++ F) w → Fn c.P fid (vs ++ cap) (A.map roR) w Φ v (fun _ => [])) (hn : Nat.blt d c.n = true)
    (k : ∀ x, Φ x → WL c ops Q rest ((d, v x) :: env) ds H) :
    WL c ops Q (⟨some d, .call { callee := .value f, args := xs.toArray, argTypes := ts }, ty, pos, af, none⟩ :: rest) env ds H :=
  WL.call (H' := fun _ => H) hf hx he (lift_ro tk h) hn k
theorem OK.roRead {w0 : World} {S : Pm} {H F : List Res} {w : World} {v : Value} {e size n : Nat} {cs : List Value} (h : OK w0 S H w) (t : Take1 H (roR (ownR v e size n cs)) F) : OK w0 S (rdR v size n cs :: F) w :=
  h.turnG t (Chg.refl _ _) (Sown.rd (h.get t)) (fun k hk => hk.elim) (fun k hk => .inl hk.1)
theorem OK.roOne {w0 : World} {S : Pm} {H F : List Res} {w : World} {r : Res} (h : OK w0 S H w) (t : Take1 H r F) : OK w0 S (roR r :: F) w :=
  h.turnG (r' := roR r) t (Chg.refl _ _) (show r.ok w from h.get t) (fun k hk => hk.elim) (fun k hk => .inl hk)
theorem OK.srcRo {w : World} {b : Nat} {t : TypeId} {cs : List Value} {F' : List Res} (hw : OK c.w0 c.S (A ++ F) w) (tk : Take1 F (roR (blkR b t cs)) F') : BlkS w (fpL A) b t cs := fun w' hc => by
  have h1 : OK c.w0 c.S (A ++ F) w := hw
  have h2 := (h1.perm ((tk.perm.append_left A).trans List.perm_middle))
  have h3 : w.heap[b]? = some (.cells cs.toArray t (0, 0)) := h2.all _ (List.mem_cons_self ..)
  have hd := List.pairwise_cons.1 h2.dis
  refine (roR (blkR b t cs)).st w w' _ h3 hc (fun k hk ⟨s, hs, hsk⟩ => ?_)
  exact (hd.1 s (List.mem_append_left _ hs)).2 k hk hsk
theorem RdOf.roOwn {v : Value} {e size n : Nat} {cs : List Value} : RdOf (roR (ownR v e size n cs)) v size n cs := ⟨fun _ h => Sown.rd h⟩
end

/-- Two results, in memory both: one of many cells, one of one. -/
theorem retCV {c : Cx} {fn : Func} {R : Ending → World → Prop} {e : Exit} {env : Env} {H F F2 : List Res} {t T n b u U b2 : Nat} {T' T2 : TypeId} {cs cs2 : List Value} {x : Value} (he : e = .normal ∨ e = .ret) (hr : fn.results = #[.cell t T, .cell u U]) (ha : aggB c.P T n = true) (ho : isOne c.P U = true)
    (hv : Env.get env t = some (.pointer (some ⟨b, 0, none⟩))) (hx : Env.get env u = some (.pointer (some ⟨b2, 0, none⟩))) (tk : Take1 H (blkR b T' cs) F) (tk2 : Take1 H (blkR b2 T2 (x :: cs2)) F2) (hl : cs.length = n) (h : ∀ w, OK c.w0 c.S H w → R (.returned (.tuple #[.agg cs.toArray, x])) w) : retS c fn R e env [] H := by
  refine retG he (fun tmps w ht hw => ?_) h
  have h1 := run_loadVar_agg (P := c.P) ha hl (hw.cells tk)
  have h2 : (loadVar U ⟨b2, 0, none⟩).run c.P w = .ok x w := by
    have := run_loadAt_one (P := c.P) ho (a := ⟨b2, 0, none⟩) (v := x) (w := w) (by simpa using hw.cells tk2 0 x rfl)
    simpa [Instr.loadAt, Instr.sureAddr] using this
  simp [results, hr, ht t _ hv, ht u _ hx, asAddr, h1, h2]
end Go.Proofs.YtfobhdmhjjafcaaGreatDoorRR
