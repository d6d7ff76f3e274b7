/- Lending: a call that only reads rows of the caller's memory. No condition. Slices that are handed in, read as immutable rows. No condition. Rows that are handed back, told as rows that are not written again; calls on lent rows whose answer holds rows. No condition. Rules for appends and slices' literals. No condition. Arguments of any plain type, read as values. No condition. Calls on lent rows in regions whose order is open. No condition. The rules in one. No condition. -/
import Derived.Test.YtjjenpdjmcmgbaaDAm7
import Derived.ChangeArms
import Derived.SizedLaws
namespace Go.Proofs.Ytjjenpdjmcmgbaa.Ab
open Go
set_option linter.unusedSimpArgs false
set_option linter.unusedVariables false
/-- A cell that a call may look at, names left aside. -/
def unkV (v : V) : V := bif nf v then v else .unk
theorem nf_unkV (v : V) : nf (unkV v) = true := by
  unfold unkV
  cases h : nf v with
  | true => simpa using h
  | false => rfl
theorem unkV_RV {N : Nat} {ρ : Pl} {I : Nat → Prop} {w : World} {v : V} {x : Value} (h : RV N ρ I w v x) : RV N ρ I w (unkV v) x := by
  unfold unkV
  cases nf v with
  | true => exact h
  | false => simp only [cond_false, RV]
/-- A value of the caller's, as one that only reads sees it. -/
def lend1 (m : Mem) : V → V
  | .sl sz n off len => match m[n]? with
    | some (.row _ sz' es) => bif Nat.beq sz sz' && Nat.ble (off + len) es.length then .isl sz ((es.drop off).take len) else .sl sz n off len
    | _ => .sl sz n off len
  | v => v
theorem own_lt {ρ : Pl} {I : Nat → Prop} {m : Mem} {w : World} (hr : Rep ρ I m w) {b : Nat} (h : Own ρ m b) : b < w.heap.size := by
  obtain ⟨n, ⟨bl, hb, hl⟩, rfl⟩ := h
  have := hr.blk n bl hb
  have lt : ∀ {o : Obj}, w.heap[(ρ n).1]? = some o → (ρ n).1 < w.heap.size := fun ho => (Array.getElem?_eq_some_iff.1 ho).1
  cases bl with
  | dead => cases hl
  | var t l => obtain ⟨_, c, h1, _⟩ := this; exact lt h1
  | row t s es => obtain ⟨c, h1, _⟩ := this; exact lt h1
  | map es bs clk => obtain ⟨_, e, h1, _⟩ := this; exact lt h1
  | iter _ _ _ _ => obtain ⟨_, _, h1⟩ := this; exact lt h1
theorem lend1_RV {ρ : Pl} {I : Nat → Prop} {m : Mem} {w : World} (hr : Rep ρ I m w) {v : V} {x : Value} (hx : RV m.length ρ I w v x) (hn : nf (lend1 m v) = true) :
    RV 0 (fun _ => (0, 0)) (fun b => I b ∨ Own ρ m b) w (lend1 m v) x := by
  have keep : ∀ {v : V}, nf v = true → RV m.length ρ I w v x → RV 0 (fun _ => (0, 0)) (fun b => I b ∨ Own ρ m b) w v x := by
    intro v h1 h2
    have h3 : RV m.length ρ (fun b => I b ∨ Own ρ m b) w v x := RV.keep ⟨Nat.le_refl _, fun _ _ => rfl, fun _ h => .inl h, fun _ _ => rfl, fun b c ty h => ⟨c, h, rfl⟩⟩ v x h2
    exact RV_nf v x h1 h3
  cases v with
  | sl sz n off len =>
    cases hm : m[n]? with
    | none => simp [lend1, hm, nf] at hn
    | some b =>
      cases b with
      | row t sz' es =>
        simp only [lend1, hm] at hn ⊢
        cases hc : Nat.beq sz sz' && Nat.ble (off + len) es.length with
        | false => rw [hc] at hn; simp [nf] at hn
        | true =>
          rw [hc] at hn
          simp only [cond_true] at hn ⊢
          rw [Bool.and_eq_true, Nat.ble_eq] at hc
          have e1 := Nat.eq_of_beq_eq_true hc.1
          subst e1
          simp only [RV] at hx
          obtain ⟨h1, o, cap, rfl, h2, h3, c, ty, h4, h5⟩ := hx
          have hb := hr.blk n _ hm
          obtain ⟨c', k1, k2, k3⟩ := hb
          rw [h4] at k1
          cases k1
          have hlen : ((es.drop off).take len).length = len := by simp; omega
          simp only [RV]
          refine ⟨_, cap, by rw [hlen], by rw [hlen]; exact h2.1, ?_⟩
          rcases h3 with h3 | h3
          · left
            have : len = 0 := by omega
            subst this
            simp
          · right
            refine ⟨_, o, c, _, _, rfl, .inr ⟨n, ⟨_, hm, rfl⟩, rfl⟩, h4, ?_⟩
            have hr1 : Rcc m.length ρ (fun b => I b ∨ Own ρ m b) w ((es.drop off).take len) c o sz := by
              refine Rcc.mk fun i e he => ?_
              have hi : i < len := by
                have := (List.getElem?_eq_some_iff.1 he).1
                omega
              rw [List.getElem?_take_of_lt hi, List.getElem?_drop] at he
              obtain ⟨p1, p2⟩ := Rcc.get k3 (off + i) e he
              refine ⟨p1, ?_⟩
              rw [h3, show (ρ n).2 + off * sz + i * sz = (ρ n).2 + (off + i) * sz by rw [Nat.add_mul]; omega]
              exact Rc.keep ⟨Nat.le_refl _, fun _ _ => rfl, fun _ h => .inl h, fun _ _ => rfl, fun b c ty h => ⟨c, h, rfl⟩⟩ _ _ _ p2
            simp only [nf] at hn
            exact ⟨Rcc_nf _ _ _ _ hn hr1, Uf.none _ _⟩
      | _ => simp [lend1, hm, nf] at hn
  | _ => exact keep hn hx
def lendV (m : Mem) : V → V
  | .agg l => .agg (l.map (lend1 m))
  | v => lend1 m v
theorem nfs_at : ∀ {l : List V} {i : Nat} {v : V}, nfs l = true → l[i]? = some v → nf v = true
  | [], i, v, _, h => by simp at h
  | u :: r, 0, v, hn, h => by
    simp only [nfs, Bool.and_eq_true] at hn
    simp at h; subst h
    exact hn.1
  | u :: r, i + 1, v, hn, h => by
    simp only [nfs, Bool.and_eq_true] at hn
    exact nfs_at hn.2 (by simpa using h)
theorem lend_RV {ρ : Pl} {I : Nat → Prop} {m : Mem} {w : World} (hr : Rep ρ I m w) {v : V} {x : Value} (hx : RV m.length ρ I w v x) (hn : nf (lendV m v) = true) :
    RV 0 (fun _ => (0, 0)) (fun b => I b ∨ Own ρ m b) w (lendV m v) x := by
  cases v with
  | agg l =>
    simp only [lendV, nf] at hn ⊢
    simp only [RV] at hx ⊢
    obtain ⟨c, h1, h2, h3⟩ := hx
    refine ⟨c, h1, by simpa using h2, Rc.mk fun i v hv => ?_⟩
    have hv0 := hv
    rw [List.getElem?_map, Option.map_eq_some_iff] at hv
    obtain ⟨u, hu, rfl⟩ := hv
    obtain ⟨y, k1, k2, k3⟩ := h3.get i u hu
    exact ⟨y, k1, k2, lend1_RV hr k3 (nfs_at hn hv0)⟩
  | _ => exact lend1_RV hr hx hn
theorem lend_Rt {ρ : Pl} {I : Nat → Prop} {m : Mem} {w : World} (hr : Rep ρ I m w) : ∀ {vs : List V} {xs : Array Value} {o : Nat}, Rt m.length ρ I w vs xs o → nfs (vs.map (lendV m)) = true → Rt 0 (fun _ => (0, 0)) (fun b => I b ∨ Own ρ m b) w (vs.map (lendV m)) xs o
  | [], _, _, _, _ => trivial
  | v :: r, xs, o, h, hn => by
    simp only [List.map_cons, nfs, Bool.and_eq_true] at hn
    simp only [Rt] at h
    obtain ⟨⟨x, h1, h2⟩, h3⟩ := h
    exact ⟨⟨x, h1, lend_RV hr h2 hn.1⟩, lend_Rt hr h3 hn.2⟩
/-- Values that name no memory whatever. -/
def bare : V → Bool
  | .bool _ => true
  | .int _ _ => true
  | .str _ => true
  | _ => false
/-- The same, a tuple of such too. -/
def bareT0 : V → Bool
  | .bool _ => true
  | .int _ _ => true
  | .str _ => true
  | .nilp => true
  | .nils => true
  | .nilm => true
  | .nilf => true
  | .nili => true
  | _ => false
def bareT : V → Bool
  | .tup l => l.all bareT0
  | v => bareT0 v
theorem bareT0_RV {N N' : Nat} {ρ ρ' : Pl} {I I' : Nat → Prop} {w : World} {v : V} {x : Value} (hb : bareT0 v = true) (h : RV N ρ I w v x) : RV N' ρ' I' w v x := by
  cases v <;> simp only [bareT0] at hb <;> first | (cases hb; done) | (simpa only [RV] using h)
theorem bareT_go {N N' : Nat} {ρ ρ' : Pl} {I I' : Nat → Prop} {w : World} {v : V} {x : Value} (hb : bareT v = true) (h : RV N ρ I w v x) : RV N' ρ' I' w v x := by
  cases v with
  | tup l =>
    simp only [bareT] at hb
    simp only [RV] at h ⊢
    obtain ⟨c, h1, h2, h3⟩ := h
    refine ⟨c, h1, h2, Rt.mk fun i v hv => ?_⟩
    obtain ⟨y, k1, k2⟩ := h3.get i v hv
    exact ⟨y, k1, bareT0_RV (List.all_eq_true.1 hb v (List.mem_of_getElem? hv)) k2⟩
  | _ => exact bareT0_RV hb h
theorem Snd_lend {P : Program} {f : FuncId} {vs vs' : List V} {m : Mem} {v : V} (hv : vs.map (lendV m) = vs') (hn : nfs vs' = true) (h : Ans P f vs' v) (hb : bare v = true) : Snd P f vs m fun r => r = .ret v m := by
  subst hv
  intro ρ I w xs hr hl hrt
  have hr' : Rep (fun _ => (0, 0)) (fun b => I b ∨ Own ρ m b) [] w :=
    ⟨fun n b h => by simp at h, fun n h => by simp [live] at h, fun n _ h => by simp [live] at h, fun b h => h.elim (hr.ilt b) (own_lt hr)⟩
  refine (h _ _ w xs hr' (by simpa using hl) (lend_Rt hr hrt hn)).mono ?_
  rintro e w' ⟨r, ⟨m1, rfl⟩, x, ρ', I', rfl, k1, k2, k3⟩
  have old : ∀ b : Nat, b < w.heap.size → w'.heap[b]? = w.heap[b]? := fun b hb => k2.frame b hb (by rintro ⟨n, hn, _⟩; simp [live] at hn)
  have keeps : Keeps m.length ρ I w m.length ρ I w' := ⟨Nat.le_refl _, fun _ _ => rfl, fun _ h => h, fun b hb => old b (hr.ilt b hb), k2.wle.cells⟩
  refine ⟨_, rfl, x, ρ, I, rfl, ⟨fun n b hm => ?_, hr.notI, hr.inj, fun b hb => Nat.lt_of_lt_of_le (hr.ilt b hb) k2.wle.size⟩, ?_, ?_⟩
  · by_cases hlv : b.live = true
    · exact (hr.blk n b hm).keep keeps (old _ (own_lt hr ⟨n, ⟨b, hm, hlv⟩, rfl⟩))
    · cases b with
      | dead => trivial
      | _ => exact absurd rfl hlv
  · exact ⟨Nat.le_refl _, fun _ _ => rfl, fun _ _ h => h, fun _ h => h, fun _ h => .inl h, fun _ h => .inr h,
      ⟨k2.wle.os, k2.wle.tape, k2.wle.output, k2.wle.size, fun b hb => old b (hr.ilt b hb), k2.wle.cells⟩, fun b hb _ => old b hb⟩
  · show RV m.length ρ I w' v x
    have k3' : RV m1.length ρ' I' w' v x := k3
    cases v <;> simp only [bare] at hb <;> first | (cases hb; done) | (simpa only [RV] using k3')
/-- A value of the caller's, as one that only looks sees it: pointers too. -/
def lookV (m : Mem) : V → V
  | .ptr n off => match m[n]? with
    | some (.var _ l) => .ip ((l.drop off).map unkV)
    | _ => .ptr n off
  | v => lendV m v
theorem look_RV {ρ : Pl} {I : Nat → Prop} {m : Mem} {w : World} (hr : Rep ρ I m w) {v : V} {x : Value} (hx : RV m.length ρ I w v x) (hn : nf (lookV m v) = true) :
    RV 0 (fun _ => (0, 0)) (fun b => I b ∨ Own ρ m b) w (lookV m v) x := by
  cases v with
  | ptr n off =>
    cases hm : m[n]? with
    | none => simp [lookV, hm, nf] at hn
    | some b =>
      cases b with
      | var ty l =>
        simp only [lookV, hm]
        simp only [RV] at hx
        obtain ⟨h1, rfl⟩ := hx
        obtain ⟨h2, c, h3, h4, h5⟩ := hr.blk n _ hm
        simp only [RV]
        refine ⟨_, _, c, ty, _, rfl, .inr ⟨n, ⟨_, hm, rfl⟩, rfl⟩, h3, Rc.mk fun i v hv => ?_, Uf.none _ _⟩
        rw [List.getElem?_map, Option.map_eq_some_iff] at hv
        obtain ⟨u, hu, rfl⟩ := hv
        rw [List.getElem?_drop] at hu
        obtain ⟨y, k1, k2, k3⟩ := h5.get (off + i) u hu
        refine ⟨y, by rw [h2, ← k1]; congr 1; omega, k2, ?_⟩
        have h6 : RV m.length ρ (fun b => I b ∨ Own ρ m b) w u y := RV.keep ⟨Nat.le_refl _, fun _ _ => rfl, fun _ h => .inl h, fun _ _ => rfl, fun b c ty h => ⟨c, h, rfl⟩⟩ u y k3
        exact RV_nf _ _ (nf_unkV u) (unkV_RV h6)
      | _ => simp [lookV, hm, nf] at hn
  | _ => exact lend_RV hr hx hn
theorem look_Rt {ρ : Pl} {I : Nat → Prop} {m : Mem} {w : World} (hr : Rep ρ I m w) : ∀ {vs : List V} {xs : Array Value} {o : Nat}, Rt m.length ρ I w vs xs o → nfs (vs.map (lookV m)) = true → Rt 0 (fun _ => (0, 0)) (fun b => I b ∨ Own ρ m b) w (vs.map (lookV m)) xs o
  | [], _, _, _, _ => trivial
  | v :: r, xs, o, h, hn => by
    simp only [List.map_cons, nfs, Bool.and_eq_true] at hn
    simp only [Rt] at h
    obtain ⟨⟨x, h1, h2⟩, h3⟩ := h
    exact ⟨⟨x, h1, look_RV hr h2 hn.1⟩, look_Rt hr h3 hn.2⟩
theorem Snd_look {P : Program} {f : FuncId} {vs vs' : List V} {m : Mem} {v : V} (hv : vs.map (lookV m) = vs') (hn : nfs vs' = true) (h : Ans P f vs' v) (hb : bareT v = true) : Snd P f vs m fun r => r = .ret v m := by
  subst hv
  intro ρ I w xs hr hl hrt
  have hr' : Rep (fun _ => (0, 0)) (fun b => I b ∨ Own ρ m b) [] w :=
    ⟨fun n b h => by simp at h, fun n h => by simp [live] at h, fun n _ h => by simp [live] at h, fun b h => h.elim (hr.ilt b) (own_lt hr)⟩
  refine (h _ _ w xs hr' (by simpa using hl) (look_Rt hr hrt hn)).mono ?_
  rintro e w' ⟨r, ⟨m1, rfl⟩, x, ρ', I', rfl, k1, k2, k3⟩
  have old : ∀ b : Nat, b < w.heap.size → w'.heap[b]? = w.heap[b]? := fun b hb => k2.frame b hb (by rintro ⟨n, hn, _⟩; simp [live] at hn)
  have keeps : Keeps m.length ρ I w m.length ρ I w' := ⟨Nat.le_refl _, fun _ _ => rfl, fun _ h => h, fun b hb => old b (hr.ilt b hb), k2.wle.cells⟩
  refine ⟨_, rfl, x, ρ, I, rfl, ⟨fun n b hm => ?_, hr.notI, hr.inj, fun b hb => Nat.lt_of_lt_of_le (hr.ilt b hb) k2.wle.size⟩, ?_, ?_⟩
  · by_cases hlv : b.live = true
    · exact (hr.blk n b hm).keep keeps (old _ (own_lt hr ⟨n, ⟨b, hm, hlv⟩, rfl⟩))
    · cases b with
      | dead => trivial
      | _ => exact absurd rfl hlv
  · exact ⟨Nat.le_refl _, fun _ _ => rfl, fun _ _ h => h, fun _ h => h, fun _ h => .inl h, fun _ h => .inr h,
      ⟨k2.wle.os, k2.wle.tape, k2.wle.output, k2.wle.size, fun b hb => old b (hr.ilt b hb), k2.wle.cells⟩, fun b hb _ => old b hb⟩
  · show RV m.length ρ I w' v x
    have k3' : RV m1.length ρ' I' w' v x := k3
    exact bareT_go hb k3'
/-- The same for a call in its place: memory stays. -/
theorem callD_look {P : Program} {f : FuncId} {vs : List V} {m : Mem} {K Kp : V → Mem → Prop} {v : V} (vs' : List V) (h : Ans P f vs' v) (he : enterable P f = true) (hl : vs.map (lookV m) = vs') (hn : nfs vs' = true) (hb : bareT v = true) (hk : K v m) : callD P f vs m K Kp :=
  callD_all (Snd_look hl hn h hb) he hk
end Go.Proofs.Ytjjenpdjmcmgbaa.Ab
namespace Go.Proofs.Ytjjenpdjmcmgbaa.Ab
open Go Go.ChangeShapes Go.WideShapes Go.RowKit
set_option linter.unusedSimpArgs false
set_option linter.unusedVariables false
section
variable {H : Type} {enc : TypeId × Value → H} {P : Program} {w : World} {base : Nat} {spare : Nat → Bool} {held : Bool}
/-- Cells of the old world, told by values. -/
def RvL (w : World) (l : List V) (cs : List Value) : Prop :=
  l.length = cs.length ∧ ∀ (k : Nat) v y, l[k]? = some v → cs[k]? = some y → RV 0 (fun _ => (0, 0)) (fun b => b < w.heap.size) w v y ∧ y.oneCell' = true
theorem cell_of {a : Addr} {v : Value} (h : w.cell? a = some v) : a.spot = none ∧ ∃ c ty fr, w.heap[a.block]? = some (.cells c ty fr) ∧ c[a.off]? = some v := by
  unfold World.cell? at h
  split at h
  · rename_i c ty fr hb
    split at h
    · cases h
    · rename_i hs
      exact ⟨by cases ha : a.spot <;> simp_all, c, ty, fr, hb, h⟩
  · cases h
theorem mapM_get {α β : Type} {g : α → Option β} : ∀ {l : List α} {r : List β}, l.mapM g = some r → r.length = l.length ∧ ∀ (i : Nat) x, l[i]? = some x → ∃ y, r[i]? = some y ∧ g x = some y
  | [], r, h => by cases h; exact ⟨rfl, fun i x hx => by simp at hx⟩
  | a :: l, r, h => by
    rw [List.mapM_cons] at h
    cases ha : g a with
    | none => rw [ha] at h; cases h
    | some b =>
      rw [ha] at h
      cases hl : l.mapM g with
      | none => rw [hl] at h; cases h
      | some r' =>
        rw [hl] at h
        cases h
        obtain ⟨h1, h2⟩ := mapM_get hl
        refine ⟨by simp [h1], fun i x hx => ?_⟩
        cases i with
        | zero => simp at hx; subst hx; exact ⟨b, rfl, ha⟩
        | succ i => exact h2 i x hx
theorem weights_all {e : TypeId} {q : Nat} : ∀ {ds : List (DataW H)} {d : DataW H}, d ∈ ds → q ∈ DataW.weights P e d → q ∈ DataW.weightsAll P e ds
  | d0 :: ds, d, h, hq => by
    simp only [DataW.weightsAll, List.mem_append]
    rcases List.mem_cons.1 h with rfl | h
    · exact .inl hq
    · exact .inr (weights_all h hq)
/-- A slice, each of whose elements reads as one of α. -/
theorem open_rows {α : Type} (elt : α → List V) (good : α → Prop) {t e : TypeId} {c fuel : Nat} {v : Value} {x : DataW H × List MemPlace} (hc : 0 < c) (ht : P.underlying t = some (.slice e)) (hce : P.cellsOf e = c)
    (hv : ∃ a l k, v = .slice a l k) (h : DataW.trod enc P w base spare held fuel t v.cells.toList = some x)
    (hw : ∀ q ∈ DataW.weights P t x.1, q ≤ reachBytes) (hz : w.noneFrozen x.2)
    (hel : ∀ n cs y, DataW.trod enc P w base spare held n e cs = some y → cs.length = c → (∀ q ∈ DataW.weights P e y.1, q ≤ reachBytes) → w.noneFrozen y.2 → ∃ a, good a ∧ RvL w (elt a) cs) :
    ∃ as : List α, (∀ a ∈ as, good a) ∧ as.length * P.bytesOf e ≤ reachBytes ∧ RV 0 (fun _ => (0, 0)) (fun b => b < w.heap.size) w (.isl c (as.map elt)) v := by
  obtain ⟨a0, l0, k0, rfl⟩ := hv
  rcases DataW.trod_slice ht h with ⟨h0, _⟩ | ⟨a, len, cap, elems, rest, n, rfl, h0, rfl, hb, hl, hm, hlen, hels, _, _⟩
  · simp [Value.cells] at h0
    obtain ⟨rfl, rfl, rfl⟩ := h0
    exact ⟨[], by simp, by simp, by simp only [RV]; exact ⟨none, 0, rfl, Nat.le_refl _, .inl rfl⟩⟩
  · simp [Value.cells] at h0
    obtain ⟨rfl, rfl, rfl⟩ := h0
    have each : ∀ i, i < l0 → ∃ z, good z ∧ (elt z).length = c ∧ ∀ k, k < c → ∃ v y, (elt z)[k]? = some v ∧ w.cell? ((a.add (i * c)).add k) = some y ∧ RV 0 (fun _ => (0, 0)) (fun b => b < w.heap.size) w v y ∧ y.oneCell' = true := by
      intro i hi
      have h1 := hels i hi
      rw [hce] at h1
      have hsome : elems[i]? ≠ none := by rw [List.getElem?_eq_getElem (by omega)]; simp
      cases hcs : w.cells? base (a.add (i * c)) c with
      | none => rw [hcs] at h1; exact absurd h1.symm hsome
      | some cs =>
        rw [hcs, Option.bind_some] at h1
        rw [List.getElem?_eq_getElem (by omega)] at h1
        unfold World.cells? at hcs
        split at hcs
        · obtain ⟨m1, m2⟩ := mapM_get hcs
          obtain ⟨z, hz, hz1, hz2⟩ := hel n cs _ h1 (by simpa using m1) (fun q hq => hw q (by
            simp only [DataW.weights, ht]
            exact List.mem_cons_of_mem _ (List.mem_append_left _ (weights_all (List.mem_map_of_mem (List.getElem_mem _)) hq)))) (fun b off hm => hz b off (List.mem_append_right _ (List.mem_flatMap.2 ⟨_, List.mem_append_left _ (List.getElem_mem _), hm⟩)))
          refine ⟨z, hz, by rw [hz1]; simpa using m1, fun k hk => ?_⟩
          obtain ⟨y, hy1, hy2⟩ := m2 k k (by simp [hk])
          have hkl : k < (elt z).length := by rw [hz1]; simpa [m1] using hk
          obtain ⟨q1, q2⟩ := hz2 k _ y (List.getElem?_eq_getElem hkl) hy1
          exact ⟨_, y, List.getElem?_eq_getElem hkl, hy2, q1, q2⟩
        · cases hcs
    -- pick the elements
    have : ∃ as : List α, as.length = l0 ∧ ∀ (i : Nat) z, as[i]? = some z → good z ∧ (elt z).length = c ∧ ∀ k, k < c → ∃ v y, (elt z)[k]? = some v ∧ w.cell? ((a.add (i * c)).add k) = some y ∧ RV 0 (fun _ => (0, 0)) (fun b => b < w.heap.size) w v y ∧ y.oneCell' = true := by
      refine ⟨(List.finRange l0).map fun i => Classical.choose (each i.1 i.2), by simp, fun i z hz => ?_⟩
      rw [List.getElem?_map] at hz
      cases hf : (List.finRange l0)[i]? with
      | none => rw [hf] at hz; cases hz
      | some f =>
        rw [hf] at hz
        cases hz
        have hi : i < l0 := by
          have := (List.getElem?_eq_some_iff.1 hf).1
          simpa using this
        have : f = ⟨i, hi⟩ := by
          obtain ⟨_, he⟩ := List.getElem?_eq_some_iff.1 hf
          rw [← he]; simp
        subst this
        exact Classical.choose_spec (each i hi)
    obtain ⟨as, has, hall⟩ := this
    refine ⟨as, fun z hz => ?_, ?_, ?_⟩
    rotate_left
    · have := hw ((elems.map (·.1)).length * P.bytesOf e + (rest.map (·.1)).length * P.bytesOf e) (by simp only [DataW.weights, ht]; rw [← Nat.add_mul]; exact List.mem_cons_self ..)
      rw [List.length_map, hlen] at this
      rw [has]
      omega
    rotate_left
    · obtain ⟨i, hi⟩ := List.mem_iff_getElem?.1 hz
      exact (hall i z hi).1
    · simp only [RV]
      refine ⟨_, _, by rw [List.length_map, has], by rw [List.length_map, has]; exact hl, ?_⟩
      cases has0 : as with
      | nil => exact .inl rfl
      | cons z0 zs =>
        right
        obtain ⟨_, g1, g2⟩ := hall 0 z0 (by rw [has0]; rfl)
        obtain ⟨_, y0, _, hy, _, _⟩ := g2 0 hc
        simp only [Nat.zero_mul, Addr.add, if_true] at hy
        obtain ⟨hs, cc, ty, fr, hb0, _⟩ := cell_of hy
        refine ⟨a.block, a.off, cc, ty, fr, by cases a; simp_all, (Array.getElem?_eq_some_iff.1 hb0).1, hb0, ?_, ?_⟩
        rotate_left
        · intro j hj1 hj2
          have hm : MemPlace.cell a.block j ∈ MemPlace.row a ((elems.length + rest.length) * P.cellsOf e) := MemPlace.mem_row.2 ⟨j - a.off, by
            rw [List.length_map, ← has0, has] at hj2
            rw [hlen, hce, Nat.add_mul]; omega, by congr 1; omega⟩
          have := hz _ _ (List.mem_append_left _ hm)
          obtain ⟨lo, hi⟩ := fr
          simp only [World.frozen?, hb0, Bool.and_eq_false_iff, decide_eq_false_iff_not] at this
          simp only
          omega
        rw [← has0]
        refine Rcc.mk fun i l hi => ?_
        rw [List.getElem?_map] at hi
        cases hz : as[i]? with
        | none => rw [hz] at hi; cases hi
        | some z =>
          rw [hz] at hi
          cases hi
          obtain ⟨_, q1, q2⟩ := hall i z hz
          refine ⟨q1, Rc.mk fun k v hk => ?_⟩
          have hkc : k < c := by
            have := (List.getElem?_eq_some_iff.1 hk).1
            omega
          obtain ⟨v', y, r1, r2, r3, r4⟩ := q2 k hkc
          rw [hk] at r1
          cases r1
          obtain ⟨_, c2, _, _, hb2, hv2⟩ := cell_of r2
          have e1 : ((a.add (i * c)).add k).block = a.block ∧ ((a.add (i * c)).add k).off = a.off + i * c + k := by
            unfold Addr.add
            by_cases h1 : i * c = 0
            · rw [if_pos h1]
              by_cases h2 : k = 0
              · rw [if_pos h2]; exact ⟨rfl, by omega⟩
              · rw [if_neg h2]; exact ⟨rfl, by simp only; omega⟩
            · rw [if_neg h1]
              by_cases h2 : k = 0
              · rw [if_pos h2]; exact ⟨rfl, by simp only; omega⟩
              · rw [if_neg h2]; exact ⟨rfl, rfl⟩
          rw [e1.1, hb0] at hb2
          cases hb2
          rw [e1.2] at hv2
          exact ⟨y, hv2, r4, r3⟩
end
end Go.Proofs.Ytjjenpdjmcmgbaa.Ab
namespace Go.Proofs.Ytjjenpdjmcmgbaa.Ab
open Go
set_option linter.unusedSimpArgs false
set_option linter.unusedVariables false
/-- A contract of a function of values alone whose answer holds no memory but its own. -/
def AnsB (P : Program) (f : FuncId) (vs : List V) (v : V) : Prop :=
  ∀ (I : Nat → Prop) (w : World) (xs : Array Value), (∀ b, I b → b < w.heap.size) → vs.length = xs.size → Rt 0 (fun _ => (0, 0)) I w vs xs 0 →
    Calls P f xs w fun e w' => ∃ x, e = .returned x ∧ RV 0 (fun _ => (0, 0)) (fun b => w.heap.size ≤ b ∧ b < w'.heap.size) w' v x ∧ WLe (fun b => b < w.heap.size) w w'
theorem Snd_lendB {P : Program} {f : FuncId} {vs vs' : List V} {m : Mem} {v : V} (hv : vs.map (lendV m) = vs') (hn : nfs vs' = true) (h : AnsB P f vs' v) (hnv : nf v = true) : Snd P f vs m fun r => r = .ret v m := by
  subst hv
  intro ρ I w xs hr hl hrt
  refine (h (fun b => I b ∨ Own ρ m b) w xs (fun b hb => hb.elim (hr.ilt b) (own_lt hr)) (by simpa using hl) (lend_Rt hr hrt hn)).mono ?_
  rintro e w' ⟨x, rfl, k1, k2⟩
  have old : ∀ b : Nat, b < w.heap.size → w'.heap[b]? = w.heap[b]? := k2.imm
  let J : Nat → Prop := fun b => I b ∨ (w.heap.size ≤ b ∧ b < w'.heap.size)
  have keeps : Keeps m.length ρ I w m.length ρ J w' := ⟨Nat.le_refl _, fun _ _ => rfl, fun _ h => .inl h, fun b hb => old b (hr.ilt b hb), k2.cells⟩
  refine ⟨_, rfl, x, ρ, J, rfl, ⟨fun n b hm => ?_, ?_, hr.inj, ?_⟩, ?_, ?_⟩
  · by_cases hlv : b.live = true
    · exact (hr.blk n b hm).keep keeps (old _ (own_lt hr ⟨n, ⟨b, hm, hlv⟩, rfl⟩))
    · cases b with
      | dead => trivial
      | _ => exact absurd rfl hlv
  · rintro n hn (h1 | h1)
    · exact hr.notI n hn h1
    · have := hr.live_lt hn
      omega
  · rintro b (h1 | h1)
    · exact Nat.lt_of_lt_of_le (hr.ilt b h1) k2.size
    · exact h1.2
  · refine ⟨Nat.le_refl _, fun _ _ => rfl, fun _ _ h => h, fun _ h => .inl h, ?_, fun _ h => .inr h,
      ⟨k2.os, k2.tape, k2.output, k2.size, fun b hb => old b (hr.ilt b hb), k2.cells⟩, fun b hb _ => old b hb⟩
    rintro b (h1 | h1)
    · exact .inl h1
    · exact .inr (.inl h1.1)
  · show RV m.length ρ J w' v x
    have h1 : RV m.length ρ (fun b => w.heap.size ≤ b ∧ b < w'.heap.size) w' v x := RV_nf v x hnv k1
    exact RV.keep ⟨Nat.le_refl _, fun _ _ => rfl, fun _ h => .inr h, fun _ _ => rfl, fun b c ty h => ⟨c, h, rfl⟩⟩ v x h1
theorem nf_lend1 {m : Mem} {v : V} (h : nf v = true) : lend1 m v = v := by
  cases v <;> first | rfl | (simp [nf] at h)
theorem nf_lends {m : Mem} : ∀ {l : List V}, nfs l = true → l.map (lend1 m) = l
  | [], _ => rfl
  | v :: r, h => by
    simp only [nfs, Bool.and_eq_true] at h
    rw [List.map_cons, nf_lend1 h.1, nf_lends h.2]
theorem nf_lend {m : Mem} {v : V} (h : nf v = true) : lendV m v = v := by
  cases v with
  | agg l =>
    simp only [nf] at h
    simp only [lendV, nf_lends h]
  | _ => exact nf_lend1 (m := m) h
theorem AnsB.ans {P : Program} {f : FuncId} {vs : List V} {v : V} (h : AnsB P f vs v) (hn : nfs vs = true) (hnv : nf v = true) : Ans P f vs v := by
  refine Snd.mono (Snd_lendB (m := []) (vs' := vs) ?_ hn h hnv) fun r hr => ⟨_, hr⟩
  clear h
  induction vs with
  | nil => rfl
  | cons u r ih =>
    simp only [nfs, Bool.and_eq_true] at hn
    rw [List.map_cons, ih hn.2]
    rw [nf_lend hn.1]
theorem lend_row {m : Mem} {n sz len ty : Nat} {es : List (List V)} (h : m[n]? = some (.row ty sz es)) (hl : len = es.length) : lendV m (.sl sz n 0 len) = .isl sz es := by
  subst hl
  have : (Nat.beq sz sz && Nat.ble (0 + es.length) es.length) = true := by simp
  simp only [lendV, lend1, h, this, cond_true]
  simp
end Go.Proofs.Ytjjenpdjmcmgbaa.Ab
namespace Go.Proofs.Ytjjenpdjmcmgbaa.Ab
open Go
set_option linter.unusedSimpArgs false
set_option linter.unusedVariables false
section
variable {P : Program} {m : Mem} {t u e : TypeId} {sz by_ n len : Nat} {z : List V} {x : V} {new es : List (List V)}
theorem cont_isl : contV m sz (.isl sz es) = some es := by simp [contV]
theorem cont_row {ty : Nat} (hm : m[n]? = some (.row ty sz es)) (hl : len = es.length) : contV m sz (.sl sz n 0 len) = some es := by
  subst hl
  have : Nat.ble es.length es.length = true := by simp
  simp [contV, hm, this]
theorem append_none (ht : P.underlying t = some (.slice e)) (hz : zeroE P e = some (z, sz, by_)) (hu : isSliceT P u = true) (hx : contV m sz x = some []) : appendA P t u .nils x m = some (.nils, m) := by
  rw [appendA_of hx]
  simp [appendV, ht, hz, hu, hx]
theorem append_nil (ht : P.underlying t = some (.slice e)) (hz : zeroE P e = some (z, sz, by_)) (hu : isSliceT P u = true) (hx : contV m sz x = some new) (h0 : new.length ≠ 0) (hb : new.length * by_ ≤ 140737488355328) (hb2 : new.length ≤ 140737488355328) :
    appendA P t u .nils x m = some (.sl sz m.length 0 new.length, m ++ [.row e sz new]) := by
  rw [appendA_of hx]
  simp only [appendV, ht, hz, hu, hx, cond_true]
  rw [if_neg h0, if_pos ⟨hb, by omega⟩]
theorem append_sl (ht : P.underlying t = some (.slice e)) (hz : zeroE P e = some (z, sz, by_)) (hu : isSliceT P u = true) (hx : contV m sz x = some new) (hm : m[n]? = some (.row e sz es)) (hl : len = es.length)
    (hb : (es.length + new.length) * by_ ≤ 140737488355328) (hb2 : es.length + new.length ≤ 140737488355328) :
    appendA P t u (.sl sz n 0 len) x m = some (.sl sz m.length 0 (es ++ new).length, m.set n .dead ++ [.row e sz (es ++ new)]) := by
  rw [appendA_of hx]
  subst hl
  simp only [appendV, ht, hz, hu, hx, hm, cond_true]
  have : (Nat.beq sz sz && (Nat.beq sz sz && (Nat.beq e e && Nat.ble (0 + es.length) es.length))) = true := by simp
  rw [this]
  simp only [cond_true]
  rw [if_pos ⟨hb, by omega⟩, List.drop_zero, List.take_length, List.length_append]
theorem loadK_ep {agg : Bool} {s s' k i off : Nat} : loadK agg s m (.ep s' k i off) = (m[k]?).bind fun b => match b with | .row _ s2 es => (if s' = s2 then es[i]? else none).bind fun l => partK agg s l off | _ => none := by
  simp only [loadK, cellsAt]
  cases m[k]? with
  | none => rfl
  | some b =>
    cases b with
    | row ty s2 es =>
      by_cases hb : s' = s2
      · simp only [Option.bind_some, hb, if_true]
        cases es[i]? <;> rfl
      · simp only [Option.bind_some, hb, if_false, Option.bind_none]
    | _ => rfl
theorem iaddrA_ip {a s j : Nat} {l : List V} {kk : IntKind} (h : j < a) : iaddrA a s (.ip l) (.int kk (j : Int)) = some (.ip (l.drop (j * s))) := by
  unfold iaddrA
  simp only
  rw [if_pos ⟨by omega, by omega⟩]
  simp
end
end Go.Proofs.Ytjjenpdjmcmgbaa.Ab
namespace Go.Proofs.Ytjjenpdjmcmgbaa.Ab
open Go Go.ChangeShapes Go.WideShapes Go.RowKit
set_option linter.unusedSimpArgs false
set_option linter.unusedVariables false
def rdF (R : TypeId → List V → Prop) : List TypeId → List (List V) → Prop
  | [], [] => True
  | t :: ts, l :: ls => R t l ∧ rdF R ts ls
  | _, _ => False
/-- What the cells of a plain type read as. -/
def rdT (P : Program) : Nat → TypeId → List V → Prop
  | 0, _, _ => False
  | d + 1, t, vs => match P.underlying t with
    | some .bool => ∃ b, vs = [.bool b]
    | some (.int k) => ∃ n, vs = [.int k n] ∧ (Lit.int k n).wf = true
    | some .string => ∃ s : ByteArray, vs = [.str s] ∧ s.size ≤ reachBytes
    | some (.slice e) => ∃ es : List (List V), vs = [.isl (P.cellsOf e) es] ∧ es.length * P.bytesOf e ≤ reachBytes ∧ ∀ l ∈ es, rdT P d e l
    | some (.array n e) => ∃ ps : List (List V), ps.length = n ∧ vs = ps.flatten ∧ ∀ l ∈ ps, rdT P d e l
    | some (.struct fs) => ∃ ps : List (List V), vs = ps.flatten ∧ rdF (rdT P d) (fs.toList.map (·.type)) ps
    | _ => False
/-- Is a type plain? -/
def plainT (P : Program) : Nat → TypeId → Bool
  | 0, _ => false
  | d + 1, t => match P.underlying t with
    | some .bool => true
    | some (.int _) => true
    | some .string => true
    | some (.slice e) => plainT P d e && Nat.blt 0 (P.cellsOf e)
    | some (.array n e) => plainT P d e && (Nat.beq (P.cellsOf t) (n * P.cellsOf e) && inRow (fun i => i * P.cellsOf e) (fun _ => P.cellsOf e) 0 (List.range n))
    | some (.struct fs) => fs.toList.all (fun f => plainT P d f.type) && (Nat.beq (P.cellsOf t) (fs.toList.map fun f => P.cellsOf f.type).sum && inRow (fun f => f.offset) (fun f => P.cellsOf f.type) 0 fs.toList)
    | _ => false
section
variable {H : Type} {enc : TypeId × Value → H} {P : Program} {w : World} {base : Nat} {spare : Nat → Bool} {held : Bool}
theorem RvL_nil : RvL w [] [] := ⟨rfl, fun k v y h => by simp at h⟩
theorem RvL_one {v : V} {y : Value} (h : RV 0 (fun _ => (0, 0)) (fun b => b < w.heap.size) w v y) (ho : y.oneCell' = true) : RvL w [v] [y] := by
  refine ⟨rfl, fun k u z h1 h2 => ?_⟩
  cases k with
  | zero => simp at h1 h2; subst h1; subst h2; exact ⟨h, ho⟩
  | succ k => simp at h1
theorem RvL_app {l1 l2 : List V} {cs : List Value} {n : Nat} (h1 : RvL w l1 (cs.take n)) (h2 : RvL w l2 (cs.drop n)) (hn : n ≤ cs.length) : RvL w (l1 ++ l2) cs := by
  have e1 : l1.length = n := by rw [h1.1]; simp; omega
  have e2 : l2.length = cs.length - n := by rw [h2.1]; simp
  refine ⟨by simp; omega, fun k v y hv hy => ?_⟩
  rcases Nat.lt_or_ge k n with hk | hk
  · rw [List.getElem?_append_left (by omega)] at hv
    exact h1.2 k v y hv (by rw [List.getElem?_take_of_lt hk]; exact hy)
  · rw [List.getElem?_append_right (by omega)] at hv
    exact h2.2 (k - n) v y (by rw [← e1]; exact hv) (by rw [List.getElem?_drop, show n + (k - n) = k by omega]; exact hy)
/-- Pieces of a row, one behind the other. -/
theorem rd_pieces {β : Type} (K : β → List Value → Option (DataW H × List MemPlace)) (off wd : β → Nat) (G : β → List V → Prop) (all : List Value) : ∀ (bs : List β) (o : Nat) (xs : List (DataW H × List MemPlace)), inRow off wd o bs = true →
    (∀ (i : Nat) b y, bs[i]? = some b → xs[i]? = some y → ∀ cs, K b cs = some y → cs.length = wd b → ∃ l, G b l ∧ RvL w l cs) → all.length = o + (bs.map wd).sum → (bs.mapM fun b => K b ((all.drop (off b)).take (wd b))) = some xs →
    ∃ ps : List (List V), ps.length = bs.length ∧ (∀ (i : Nat) b l, bs[i]? = some b → ps[i]? = some l → G b l) ∧ RvL w ps.flatten (all.drop o)
  | [], o, _, _, _, hl, _ => ⟨[], rfl, fun i b l h => by simp at h, by
      simp only [List.map_nil, List.sum_nil, Nat.add_zero] at hl
      rw [List.drop_eq_nil_of_le (by omega)]
      exact RvL_nil⟩
  | b :: r, o, xs, h1, h2, hl, h => by
    simp only [inRow, Bool.and_eq_true] at h1
    have e := Nat.eq_of_beq_eq_true h1.1
    rw [List.mapM_cons] at h
    cases hk : K b ((all.drop (off b)).take (wd b)) with
    | none => rw [hk] at h; cases h
    | some x =>
      rw [hk] at h
      cases hm : r.mapM fun b => K b ((all.drop (off b)).take (wd b)) with
      | none => rw [hm] at h; cases h
      | some l =>
        rw [hm] at h
        cases h
        simp only [List.map_cons, List.sum_cons] at hl
        obtain ⟨ps, p1, p2, p3⟩ := rd_pieces K off wd G all r (o + wd b) l h1.2 (fun i b y hb hy => h2 (i + 1) b y (by simpa using hb) (by simpa using hy)) (by omega) hm
        have hlen : ((all.drop (off b)).take (wd b)).length = wd b := by
          rw [e]; simp; omega
        obtain ⟨l1, q1, q2⟩ := h2 0 b x rfl rfl _ hk hlen
        refine ⟨l1 :: ps, by simp [p1], fun i b' l' hb hl' => ?_, ?_⟩
        · cases i with
          | zero => simp at hb hl'; subst hb; subst hl'; exact q1
          | succ i => exact p2 i b' l' (by simpa using hb) (by simpa using hl')
        · rw [List.flatten_cons]
          refine RvL_app (n := wd b) (by rw [e] at q2; exact q2) ?_ (by simp; omega)
          rw [List.drop_drop]
          exact p3
theorem weightsAll_at {e : TypeId} {q : Nat} : ∀ {ds : List (DataW H)} {i : Nat} {d : DataW H}, ds[i]? = some d → q ∈ DataW.weights P e d → q ∈ DataW.weightsAll P e ds := fun h hq => weights_all (List.mem_of_getElem? h) hq
theorem rdF_mk {R : TypeId → List V → Prop} : ∀ {ts : List TypeId} {ps : List (List V)}, ps.length = ts.length → (∀ (i : Nat) t l, ts[i]? = some t → ps[i]? = some l → R t l) → rdF R ts ps
  | [], [], _, _ => trivial
  | t :: ts, l :: ls, hl, h => ⟨h 0 t l rfl rfl, rdF_mk (by simpa using hl) fun i t l h1 h2 => h (i + 1) t l (by simpa using h1) (by simpa using h2)⟩
  | [], _ :: _, hl, _ => by simp at hl
  | _ :: _, [], hl, _ => by simp at hl
theorem mul_sum_range (n c : Nat) : ((List.range n).map fun _ => c).sum = n * c := by
  rw [List.map_const', List.length_range, List.sum_replicate_nat]
theorem trod_plain : ∀ (d : Nat) (t : TypeId) (fuel : Nat) (cs : List Value) (x : DataW H × List MemPlace), plainT P d t = true → DataW.trod enc P w base spare held fuel t cs = some x → cs.length = P.cellsOf t →
    (∀ q ∈ DataW.weights P t x.1, q ≤ reachBytes) → w.noneFrozen x.2 → ∃ vs, rdT P d t vs ∧ RvL w vs cs
  | 0, _, _, _, _, h, _, _, _, _ => by simp [plainT] at h
  | _ + 1, _, 0, _, _, _, h, _, _, _ => by simp [DataW.trod] at h
  | d + 1, t, fuel + 1, cs, x, h, ht, hlen, hw, hz => by
    have ht0 := ht
    unfold plainT at h
    unfold DataW.trod at ht
    unfold rdT
    cases hu : P.underlying t with
    | none => rw [hu] at h; cases h
    | some u =>
      rw [hu] at h ht
      cases u with
      | bool =>
        match cs, ht with
        | [.bool b], _ => exact ⟨[.bool b], ⟨b, rfl⟩, RvL_one (by simp [RV]) rfl⟩
      | int q =>
        match cs, ht with
        | [.int k n], ht =>
          simp only at ht
          split at ht
          · rename_i hc
            obtain ⟨rfl, hc⟩ := hc
            exact ⟨[.int k n], ⟨n, rfl, hc⟩, RvL_one (by simp [RV]) rfl⟩
          · cases ht
      | string =>
        match cs, ht with
        | [.string s], ht =>
          simp only at ht
          split at ht
          · cases ht
            refine ⟨[.str s], ⟨s, rfl, ?_⟩, RvL_one (by simp [RV]) rfl⟩
            have := hw s.data.toList.length (by simp [DataW.weights])
            simpa using this
          · cases ht
      | slice e =>
        simp only [Bool.and_eq_true, Nat.blt_eq] at h
        have hv : ∃ v, cs = [v] ∧ (∃ a l k, v = .slice a l k) ∧ v.oneCell' = true := by
          rcases DataW.trod_slice hu ht0 with ⟨h0, _⟩ | ⟨a, len, cap, _, _, _, _, h0, _⟩
          · exact ⟨_, h0, ⟨_, _, _, rfl⟩, rfl⟩
          · exact ⟨_, h0, ⟨_, _, _, rfl⟩, rfl⟩
        obtain ⟨v, rfl, hs, ho⟩ := hv
        have hcells : v.cells.toList = [v] := by
          obtain ⟨a, l, k, rfl⟩ := hs
          rfl
        obtain ⟨as, a1, a2, a3⟩ := open_rows (α := List V) (elt := id) (good := rdT P d e) (t := t) (fuel := fuel + 1) (v := v) (x := x) h.2 hu rfl hs (by rw [hcells]; exact ht0) hw hz (fun n cs y hy hc hq hzy => trod_plain d e n cs y h.1 hy hc hq hzy)
        refine ⟨[.isl (P.cellsOf e) as], ⟨as, rfl, a2, a1⟩, RvL_one (by simpa using a3) ho⟩
      | array n e =>
        simp only [Bool.and_eq_true] at h
        obtain ⟨h1, h2, h3⟩ := h
        have h2 := Nat.eq_of_beq_eq_true h2
        simp only at ht
        rw [if_pos hlen, Option.map_eq_some_iff] at ht
        obtain ⟨xs, hx, rfl⟩ := ht
        obtain ⟨ps, p1, p2, p3⟩ := rd_pieces (w := w) (fun _ => DataW.trod enc P w base spare held fuel e) (fun i => i * P.cellsOf e) (fun _ => P.cellsOf e) (fun _ => rdT P d e) cs (List.range n) 0 xs h3 (fun i b y hb hy cs' hk hc => trod_plain d e fuel cs' y h1 hk hc (fun q hq => hw q (by
            simp only [DataW.weights, hu]
            exact weightsAll_at (i := i) (by rw [List.getElem?_map, hy]; rfl) hq)) (fun b off hm => hz b off (List.mem_flatMap.2 ⟨_, List.mem_of_getElem? hy, hm⟩))) (by rw [mul_sum_range, hlen, h2]; omega) hx
        refine ⟨ps.flatten, ⟨ps, by simpa using p1, rfl, fun l hl => ?_⟩, by simpa using p3⟩
        obtain ⟨i, hi⟩ := List.getElem?_of_mem hl
        have : i < n := by
          have := (List.getElem?_eq_some_iff.1 hi).1
          simp at p1; omega
        exact p2 i i l (by simp [this]) hi
      | struct fs =>
        simp only [Bool.and_eq_true, List.all_eq_true] at h
        obtain ⟨h1, h2, h3⟩ := h
        have h2 := Nat.eq_of_beq_eq_true h2
        simp only at ht
        rw [if_pos hlen, Option.map_eq_some_iff] at ht
        obtain ⟨xs, hx, rfl⟩ := ht
        obtain ⟨ps, p1, p2, p3⟩ := rd_pieces (w := w) (fun f => DataW.trod enc P w base spare held fuel f.type) (fun f => f.offset) (fun f => P.cellsOf f.type) (fun f => rdT P d f.type) cs fs.toList 0 xs h3 (fun i f y hb hy cs' hk hc => trod_plain d f.type fuel cs' y (h1 f (List.mem_of_getElem? hb)) hk hc (fun q hq => hw q (by
            simp only [DataW.weights, hu]
            exact DataW.weights_mem_each (j := i) (t := f.type) (by rw [List.getElem?_map, hb]; rfl) (by rw [List.getElem?_map, hy]; rfl) q hq)) (fun b off hm => hz b off (List.mem_flatMap.2 ⟨_, List.mem_of_getElem? hy, hm⟩))) (by rw [hlen, h2]; omega) hx
        refine ⟨ps.flatten, ⟨ps, rfl, rdF_mk (by simpa using p1) fun i t l ht hl => ?_⟩, by simpa using p3⟩
        rw [List.getElem?_map, Option.map_eq_some_iff] at ht
        obtain ⟨f, hf, rfl⟩ := ht
        exact p2 i f l hf hl
      | _ => cases h
theorem RvL_one_iff {v : V} {y : Value} (h : RvL w [v] [y]) : RV 0 (fun _ => (0, 0)) (fun b => b < w.heap.size) w v y := (h.2 0 v y rfl rfl).1
/-- A slice that is handed in. -/
theorem rd_slice {t e : TypeId} {r : Reach} {b0 : Nat} {v : Value} {dd : DataW H} {ps : List MemPlace} (ht : P.underlying t = some (.slice e)) (hc : P.cellsOf t = 1) (hp : plainT P 9 t = true) (hv : Value.okWide P w r b0 t v)
    (h : DataW.Trod enc P w base spare held t v dd ps) (hw : ∀ q ∈ DataW.weights P t dd, q ≤ reachBytes) (hz : w.noneFrozen ps) : ∃ u, rdT P 9 t [u] ∧ RV 0 (fun _ => (0, 0)) (fun b => b < w.heap.size) w u v := by
  obtain ⟨a, l, k, rfl⟩ := okWide_slice ht hv
  obtain ⟨fuel, hf⟩ := h
  obtain ⟨vs, h1, h2⟩ := trod_plain 9 t fuel _ _ hp hf (by rw [hc]; rfl) hw hz
  have hl := h2.1
  match vs, hl with
  | [u], _ => exact ⟨u, h1, RvL_one_iff h2⟩
theorem rd_int {d : Nat} {t : TypeId} {k : IntKind} {vs : List V} (hu : P.underlying t = some (.int k)) (h : rdT P (d + 1) t vs) : ∃ n, vs = [.int k n] ∧ (Lit.int k n).wf = true := by
  simpa only [rdT, hu] using h
theorem rd_isl {d : Nat} {t e : TypeId} {vs : List V} (hu : P.underlying t = some (.slice e)) (h : rdT P (d + 1) t vs) : ∃ es : List (List V), vs = [.isl (P.cellsOf e) es] ∧ es.length * P.bytesOf e ≤ reachBytes ∧ ∀ l ∈ es, rdT P d e l := by
  simpa only [rdT, hu] using h
/-- Elements told one by one. -/
theorem rd_map {α : Type} {G : List V → Prop} (f : α → List V) (good : α → Prop) (h : ∀ l, G l → ∃ a, good a ∧ l = f a) : ∀ {es : List (List V)}, (∀ l ∈ es, G l) → ∃ as : List α, (∀ a ∈ as, good a) ∧ es = as.map f
  | [], _ => ⟨[], by simp, rfl⟩
  | l :: r, hg => by
    obtain ⟨a, h1, rfl⟩ := h l (hg l (by simp))
    obtain ⟨as, h2, rfl⟩ := rd_map f good h (es := r) fun l hl => hg l (by simp [hl])
    exact ⟨a :: as, by simpa using ⟨h1, h2⟩, rfl⟩
end
end Go.Proofs.Ytjjenpdjmcmgbaa.Ab
namespace Go.Proofs.Ytjjenpdjmcmgbaa.Ab
open Go
set_option linter.unusedSimpArgs false
set_option linter.unusedVariables false
end Go.Proofs.Ytjjenpdjmcmgbaa.Ab
namespace Go.Proofs.Ytjjenpdjmcmgbaa.Ab
open Go
def sims := PLift.up (And.intro (And.intro (And.intro (And.intro (And.intro (And.intro (And.intro @w_seq @w_region) (And.intro @w_cond @w_block)) (And.intro (And.intro @w_skip @w_exit) (And.intro @w_ret (And.intro @w_scope @w_label)))) (And.intro (And.intro (And.intro @seqQ_nrm @seqQ_ret) (And.intro @seqQ_exit (And.intro @seqQ_pan @blockQ_nrm))) (And.intro (And.intro @blockQ_ret @blockQ_pan) (And.intro @blockQ_exit (And.intro @x_nil @x_move))))) (And.intro (And.intro (And.intro (And.intro @x_assign @x_pick) (And.intro @x_alloc (And.intro @x_box @x_build))) (And.intro (And.intro @x_buildSlice @x_load) (And.intro @x_store (And.intro @x_nilCheck @x_binOp)))) (And.intro (And.intro (And.intro @x_unOp @x_convert) (And.intro @convM_int (And.intro @convM_nils @convM_isl))) (And.intro (And.intro @x_makeFunc @x_slice) (And.intro @x_fieldAddr (And.intro @x_field @x_indexAddr)))))) (And.intro (And.intro (And.intro (And.intro (And.intro @x_index @x_extract) (And.intro @x_typeAssert (And.intro @x_panic @panK_ifc))) (And.intro (And.intro @x_append @x_len) (And.intro @x_makeSlice (And.intro @x_makeMap @x_range)))) (And.intro (And.intro (And.intro @x_entry @x_next) (And.intro @x_lookup (And.intro @x_mapUpdate @x_insert))) (And.intro (And.intro @x_delete @x_min) (And.intro @x_max (And.intro @x_call @x_guard))))) (And.intro (And.intro (And.intro (And.intro @q_nil @q_move) (And.intro @q_assign (And.intro @q_pick @q_build))) (And.intro (And.intro @q_load @q_nilCheck) (And.intro @q_binOp (And.intro @q_unOp @q_convert)))) (And.intro (And.intro (And.intro @q_slice @q_fieldAddr) (And.intro @q_field (And.intro @q_indexAddr @q_index))) (And.intro (And.intro @q_extract @q_len) (And.intro @q_lookup (And.intro @q_call @q_guard))))))) (And.intro (And.intro (And.intro (And.intro (And.intro (And.intro @e_nil @e_move) (And.intro @e_assign (And.intro @e_pick @e_build))) (And.intro (And.intro @e_load @e_store) (And.intro @e_alloc (And.intro @e_box @e_binOp)))) (And.intro (And.intro (And.intro @e_unOp @e_convert) (And.intro @e_slice (And.intro @e_fieldAddr @e_field))) (And.intro (And.intro @e_indexAddr @e_index) (And.intro @e_extract (And.intro @e_call @e_buildSlice))))) (And.intro (And.intro (And.intro (And.intro @e_append @e_len) (And.intro @e_nilCheck (And.intro @e_lookup @e_mapUpdate))) (And.intro (And.intro @e_delete @orderP_true) (And.intro @put_some (And.intro @put_none @evO_tmp)))) (And.intro (And.intro (And.intro @evO_int @evO_bool) (And.intro @evO_str (And.intro @evO_func @upd_at))) (And.intro (And.intro @mkEnv_nil @mkEnv_cons) (And.intro @argEnv_at (And.intro @endQ_ret @endQ_nrm)))))) (And.intro (And.intro (And.intro (And.intro (And.intro @testP_true @testP_false) (And.intro @boolK_bool (And.intro @bindO_some @wantD_at))) (And.intro (And.intro @wantK_t @wantK_f) (And.intro @wantK_n (And.intro @newV_agg @newV_one)))) (And.intro (And.intro (And.intro @u_not @pick_bool) (And.intro @pick_true (And.intro @pick_false @b_add))) (And.intro (And.intro @b_sub @b_mul) (And.intro @b_and (And.intro @b_or @b_xor))))) (And.intro (And.intro (And.intro (And.intro @b_andNot @b_quo) (And.intro @b_rem (And.intro @b_eql @b_neq))) (And.intro (And.intro @b_lss @b_leq) (And.intro @b_gtr (And.intro @b_geq @b_agg_eql)))) (And.intro (And.intro (And.intro @b_agg_neq @b_bool_eql) (And.intro @b_bool_neq (And.intro @loadK_ptr @loadK_ip))) (And.intro (And.intro @storeK_int @partK_one) (And.intro @iaddrA_nat (And.intro @indexA_nat @cl_length))))))))
end Go.Proofs.Ytjjenpdjmcmgbaa.Ab
