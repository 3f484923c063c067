/- How arguments that can be read as data lie in memory: openers for integers, bools, slices, structs. No condition. -/
import Derived.Test.YtollgpnaadgncaaDoorLib
import Derived.Deep.Slices
import Derived.SizedLaws
import Derived.Deep.CondSized
import Derived.JoinedCond
namespace Go.Proofs.YtollgpnaadgncaaDoor
open Go.RowKit

section
variable {H : Type} (enc : TypeId × Value → H) (P : Program) (W : World) (sp : Nat → Bool) (held : Bool)

/-- WHAT IS READ AT TYPE t LIES AS Rd SAYS; m is at most the reading's bulk. -/
def Opens {α : Type} (t : TypeId) (Rd : World → List Value → α → Prop) (m : α → Nat) : Prop :=
  ∀ fuel cs d ps, DataW.trod enc P W 0 sp held fuel t cs = some (d, ps) → (d.weights P t).all (· ≤ reachBytes) = true → ∃ x, Rd W cs x ∧ m x ≤ Rows.uptoBulk d

def RdInt (k : IntKind) (_ : World) (cs : List Value) (x : Int) : Prop := cs = [.int k x] ∧ (Lit.int k x).wf = true
def RdBool (_ : World) (cs : List Value) (x : Bool) : Prop := cs = [.bool x]

theorem opens_int {t : TypeId} {k : IntKind} (ht : P.underlying t = some (.int k)) : Opens enc P W sp held t (RdInt k) (fun _ => 1) := by
  intro fuel cs d ps h _
  obtain ⟨n, rfl, hx, hw⟩ := DataW.trod_int ht h
  cases hx
  exact ⟨n, ⟨rfl, hw⟩, by simp [Rows.uptoBulk]⟩

theorem opens_bool {t : TypeId} (ht : P.underlying t = some .bool) : Opens enc P W sp held t RdBool (fun _ => 1) := by
  intro fuel cs d ps h _
  obtain ⟨n, rfl, hx⟩ := DataW.trod_bool ht h
  cases hx
  exact ⟨n, rfl, by simp [Rows.uptoBulk]⟩

/-- a slice whose elements lie as Rd says: sz cells each, by bytes each -/
def SlV {α : Type} (Rd : World → List Value → α → Prop) (sz by_ : Nat) (w : World) (v : Value) (xs : List α) : Prop :=
  ∃ ao c, v = .slice ao xs.length c ∧ xs.length ≤ c ∧ c ≤ 9223372036854775807 ∧ xs.length * by_ ≤ 140737488351232 ∧
    (xs ≠ [] → ∃ b o, ao = some ⟨b, o, none⟩ ∧ ∀ i x, xs[i]? = some x → ∃ cs, cs.length = sz ∧ (∀ j, j < sz → w.cell? ⟨b, o + i * sz + j, none⟩ = cs[j]?) ∧ Rd w cs x)
def RdSl {α : Type} (Rd : World → List Value → α → Prop) (sz by_ : Nat) (w : World) (cs : List Value) (xs : List α) : Prop := ∃ v, cs = [v] ∧ SlV Rd sz by_ w v xs

theorem list_of_forall {α : Type} {Q : Nat → α → Prop} : ∀ n : Nat, (∀ i, i < n → ∃ x, Q i x) → ∃ xs : List α, xs.length = n ∧ ∀ i x, xs[i]? = some x → Q i x
  | 0, _ => ⟨[], rfl, by simp⟩
  | n + 1, h => by
    obtain ⟨xs, hl, hx⟩ := list_of_forall n (fun i hi => h i (by omega))
    obtain ⟨y, hy⟩ := h n (by omega)
    refine ⟨xs ++ [y], by simp [hl], fun i x hi => ?_⟩
    by_cases hin : i < xs.length
    · rw [List.getElem?_append_left hin] at hi; exact hx i x hi
    · rw [List.getElem?_append_right (by omega)] at hi
      have : i - xs.length = 0 := by
        have := (List.getElem?_eq_some_iff.1 hi).1; simp at this; omega
      rw [this] at hi; simp at hi; subst hi
      rw [show i = n by omega]; exact hy

theorem weights_of_all {e : TypeId} : ∀ {l : List (DataW H)}, (DataW.weightsAll P e l).all (· ≤ reachBytes) = true → ∀ d ∈ l, (d.weights P e).all (· ≤ reachBytes) = true
  | [], _, d, hd => by cases hd
  | x :: l, h, d, hd => by
    simp only [DataW.weightsAll, List.all_append, Bool.and_eq_true] at h
    rcases List.mem_cons.1 hd with rfl | hd
    · exact h.1
    · exact weights_of_all h.2 d hd

theorem bulk_all_sum {α : Type} {m : α → Nat} : ∀ {l : List (DataW H)} {xs : List α}, xs.length = l.length → (∀ (i : Nat) (x : α) (d : DataW H), xs[i]? = some x → l[i]? = some d → m x ≤ Rows.uptoBulk d) → (xs.map m).sum ≤ Rows.uptoBulkAll l
  | [], [], _, _ => by simp
  | [], _ :: _, h, _ => by simp at h
  | _ :: _, [], h, _ => by simp at h
  | d :: l, x :: xs, h, hm => by
    have h0 := hm 0 x d rfl rfl
    have h1 := bulk_all_sum (l := l) (xs := xs) (by simpa using h) (fun i y e hy he => hm (i + 1) y e (by simpa using hy) (by simpa using he))
    simp only [List.map_cons, List.sum_cons, Rows.uptoBulkAll]
    omega

/-- the cells of element i of a row that begins at a -/
def w_cells (W : World) (a : Addr) (i sz : Nat) (cs' : List Value) : Prop := cs'.length = sz ∧ ∀ j, j < sz → W.cell? (a.add (i * sz + j)) = cs'[j]?
theorem w_cells_of {W : World} {a : Addr} {i sz : Nat} {cs' : List Value} (h : W.cells? 0 (a.add (i * sz)) sz = some cs') : w_cells W a i sz cs' := by
  obtain ⟨_, hl, hj⟩ := World.cells?_some h
  refine ⟨hl, fun j hj2 => ?_⟩
  have e : (a.add (i * sz)).add j = a.add (i * sz + j) := by
    obtain ⟨b, o, s⟩ := a
    unfold Addr.add
    by_cases h1 : i * sz = 0
    · by_cases h2 : j = 0
      · simp [h1, h2]
      · simp [h1, h2]
    · by_cases h2 : j = 0
      · simp [h1, h2]
      · simp [h1, h2, Nat.add_assoc]
  rw [← hj j hj2, e]

theorem opens_slice {α : Type} {t e : TypeId} {Rd : World → List Value → α → Prop} {m : α → Nat} {sz by_ : Nat} (ht : P.underlying t = some (.slice e)) (hc : P.cellsOf e = sz) (hsz : 0 < sz) (hb : P.bytesOf e = by_)
    (he : Opens enc P W sp held e Rd m) : Opens enc P W sp held t (RdSl Rd sz by_) (fun xs => (xs.map m).sum) := by
  intro fuel cs d ps h hw
  rcases Go.Deep.open_slice ht h with ⟨rfl, hx⟩ | ⟨a, len, cap, mm, n, D, Pl, rfl, hba, hl, hm, hmm, hx, hcell⟩
  · cases hx
    exact ⟨[], ⟨_, rfl, none, 0, rfl, by simp, by omega, by simp, fun h => absurd rfl h⟩, by simp⟩
  · cases hx
    simp only [DataW.weights, ht, List.all_cons, List.all_append, Bool.and_eq_true] at hw
    obtain ⟨hw0, hw1, _⟩ := hw
    have hlm : len ≤ mm := by rw [hmm]; split <;> omega
    have hlen : len * by_ ≤ 140737488351232 := by
      have h1 := of_decide_eq_true hw0
      simp only [List.length_map, List.length_range, reachBytes, hb] at h1
      have : len * by_ ≤ (len + (mm - len)) * by_ := Nat.mul_le_mul_right _ (by omega)
      omega
    have each : ∀ i, i < len → ∃ x, (∃ cs', w_cells W a i sz cs' ∧ Rd W cs' x) ∧ m x ≤ Rows.uptoBulk (D i) := by
      intro i hi
      obtain ⟨cs', hcs, htr⟩ := hcell i (by omega)
      have hwi := weights_of_all P hw1 (D i) (List.mem_map.2 ⟨i, List.mem_range.2 hi, rfl⟩)
      obtain ⟨x, hr, hmx⟩ := he n cs' (D i) (Pl i) htr hwi
      refine ⟨x, ⟨cs', ?_, hr⟩, hmx⟩
      rw [hc] at hcs
      exact w_cells_of hcs
    obtain ⟨xs, hxl, hxs⟩ := list_of_forall len each
    refine ⟨xs, ⟨_, rfl, some a, cap, by rw [hxl], by omega, hm, by rw [hxl]; exact hlen, fun hne => ?_⟩, ?_⟩
    · have hpos : 0 < xs.length := List.length_pos_iff.2 hne
      obtain ⟨⟨cs0, hc0, _⟩, _⟩ := hxs 0 xs[0] (List.getElem?_eq_getElem hpos)
      have hs : a.spot = none := by
        obtain ⟨hl0, hcc⟩ := hc0
        have := hcc 0 hsz
        rw [List.getElem?_eq_getElem (by omega)] at this
        simp only [Nat.zero_mul, Nat.add_zero] at this
        have h2 := World.cell?_spot this
        simpa [Addr.add] using h2
      obtain ⟨b, o, s⟩ := a
      simp only at hs
      subst hs
      refine ⟨b, o, rfl, fun i x hi => ?_⟩
      obtain ⟨⟨cs', hc0, hr⟩, _⟩ := hxs i x hi
      obtain ⟨hl0, hcc⟩ := hc0
      refine ⟨cs', hl0, fun j hj => ?_, hr⟩
      have := hcc j hj
      have e : ((⟨b, o, none⟩ : Addr).add (i * sz + j)) = ⟨b, o + i * sz + j, none⟩ := by
        unfold Addr.add; split
        · rename_i h0
          obtain ⟨h1, h2⟩ : i * sz = 0 ∧ j = 0 := by omega
          rw [h1, h2]; rfl
        · simp [Nat.add_assoc]
      rw [e] at this; exact this
    · have := bulk_all_sum (m := m) (l := (List.range len).map D) (xs := xs) (by simp [hxl]) (fun i x d hx hd => by
        have hil : i < len := by have := (List.getElem?_eq_some_iff.1 hx).1; omega
        have hd2 : d = D i := by
          rw [List.getElem?_map, List.getElem?_range hil] at hd
          simpa using hd.symm
        rw [hd2]; exact (hxs i x hx).2)
      simp only [Rows.uptoBulk]
      omega
/-- the fields of a struct, from one on -/
def OpensF {α : Type} (fs : List Field) (Rd : World → List Value → α → Prop) (m : α → Nat) : Prop :=
  ∀ (n : Nat) (cs : List Value) (xs : List (DataW H × List MemPlace)), xs.length = fs.length →
    (∀ (i : Nat) (f : Field), fs[i]? = some f → DataW.trod enc P W 0 sp held n f.type ((cs.drop f.offset).take (P.cellsOf f.type)) = xs[i]?) →
    (DataW.weightsEach P (fs.map (·.type)) (xs.map (·.1))).all (· ≤ reachBytes) = true → ∃ x, Rd W cs x ∧ m x ≤ Rows.uptoBulkAll (xs.map (·.1))

theorem opensF_nil : OpensF enc P W sp held [] (fun _ _ (_ : Unit) => True) (fun _ => 0) :=
  fun _ _ _ _ _ _ => ⟨(), trivial, Nat.zero_le _⟩

theorem opensF_cons {α β : Type} {f : Field} {fs : List Field} {Rd : World → List Value → α → Prop} {RdF : World → List Value → β → Prop} {m : α → Nat} {m' : β → Nat} {sz : Nat} (hsz : P.cellsOf f.type = sz)
    (h : Opens enc P W sp held f.type Rd m) (hf : OpensF enc P W sp held fs RdF m') :
    OpensF enc P W sp held (f :: fs) (fun w cs (x : α × β) => Rd w ((cs.drop f.offset).take sz) x.1 ∧ RdF w cs x.2) (fun x => m x.1 + m' x.2) := by
  intro n cs xs hl hx hw
  match xs, hl with
  | (d, ps) :: xs, hl =>
    simp only [List.map_cons, DataW.weightsEach, List.all_append, Bool.and_eq_true] at hw
    obtain ⟨x, hr, hm⟩ := h n _ d ps (by simpa using hx 0 f rfl) hw.1
    obtain ⟨y, hr2, hm2⟩ := hf n cs xs (by simpa using hl) (fun i g hg => by simpa using hx (i + 1) g (by simpa using hg)) hw.2
    refine ⟨(x, y), ⟨by rw [← hsz]; exact hr, hr2⟩, ?_⟩
    simp only [List.map_cons, Rows.uptoBulkAll]
    omega

theorem opens_struct {α : Type} {t : TypeId} {fs : Array Field} {Rd : World → List Value → α → Prop} {m : α → Nat} {N : Nat} (ht : P.underlying t = some (.struct fs)) (hN : P.cellsOf t = N) (h : OpensF enc P W sp held fs.toList Rd m) :
    Opens enc P W sp held t (fun w cs x => cs.length = N ∧ Rd w cs x) m := by
  intro fuel cs d ps htr hw
  obtain ⟨xs, n, _, hx, hl, hlen, hf⟩ := DataW.trod_struct ht htr
  cases hx
  simp only [DataW.weights, ht] at hw
  obtain ⟨x, hr, hm⟩ := h n cs xs (by simpa using hlen) (fun i f hi => hf i f (by simpa using hi)) hw
  refine ⟨x, ⟨hl.trans hN, hr⟩, ?_⟩
  simp only [Rows.uptoBulk]
  omega

/-- an array -/
def RdArr {α : Type} (Rd : World → List Value → α → Prop) (n sz : Nat) (w : World) (cs : List Value) (xs : List α) : Prop :=
  cs.length = n * sz ∧ xs.length = n ∧ ∀ i x, xs[i]? = some x → Rd w ((cs.drop (i * sz)).take sz) x

theorem Opens.map {α β : Type} {t : TypeId} {Rd : World → List Value → α → Prop} {Rd' : World → List Value → β → Prop} {m : α → Nat} {m' : β → Nat} (h : Opens enc P W sp held t Rd m) (f : α → β)
    (hr : ∀ cs x, Rd W cs x → Rd' W cs (f x)) (hm : ∀ x, m' (f x) ≤ m x) : Opens enc P W sp held t Rd' m' := by
  intro fuel cs d ps ht hw
  obtain ⟨x, h1, h2⟩ := h fuel cs d ps ht hw
  exact ⟨f x, hr cs x h1, Nat.le_trans (hm x) h2⟩
end

/-- an int64 in its range -/
theorem wf_i64 {x : Int} (h : (Lit.int .i64 x).wf = true) : -9223372036854775808 ≤ x ∧ x ≤ 9223372036854775807 := by
  simpa [Lit.wf, IntKind.min, IntKind.max, IntKind.signed, IntKind.bits] using h
theorem wf_u8 {x : Int} (h : (Lit.int .u8 x).wf = true) : 0 ≤ x ∧ x ≤ 255 := by
  simpa [Lit.wf, IntKind.min, IntKind.max, IntKind.signed, IntKind.bits] using h
theorem wf_u32 {x : Int} (h : (Lit.int .u32 x).wf = true) : 0 ≤ x ∧ x ≤ 4294967295 := by
  simpa [Lit.wf, IntKind.min, IntKind.max, IntKind.signed, IntKind.bits] using h
theorem wf_u64 {x : Int} (h : (Lit.int .u64 x).wf = true) : 0 ≤ x ∧ x ≤ 18446744073709551615 := by
  simpa [Lit.wf, IntKind.min, IntKind.max, IntKind.signed, IntKind.bits] using h

/-- a slice of bytes that came in -/
theorem bsl_of_slv {w : World} {v : Value} {xs : List Int} (h : SlV (RdInt .u8) 1 1 w v xs) : BSl w v xs ∧ ∀ x ∈ xs, 0 ≤ x ∧ x ≤ 255 := by
  obtain ⟨ao, c, rfl, h1, h2, h3, h4⟩ := h
  refine ⟨⟨ao, c, rfl, h1, h2, by omega, fun hne => ?_⟩, fun x hx => ?_⟩
  · obtain ⟨b, o, rfl, hc⟩ := h4 hne
    refine ⟨b, o, rfl, fun j hj => ?_⟩
    obtain ⟨cs, _, hcc, rfl, _⟩ := hc j xs[j] (List.getElem?_eq_getElem hj)
    have := hcc 0 (by omega)
    simpa [List.getElem?_eq_getElem hj] using this
  · have hne : xs ≠ [] := List.ne_nil_of_mem hx
    obtain ⟨b, o, rfl, hc⟩ := h4 hne
    obtain ⟨i, hi, rfl⟩ := List.getElem_of_mem hx
    obtain ⟨cs, _, _, _, hw⟩ := hc i xs[i] (List.getElem?_eq_getElem hi)
    exact wf_u8 hw

end Go.Proofs.YtollgpnaadgncaaDoor
