/- hartixref10.Pipe: Put. No condition. -/
import Derived.Test.YtnfpjholmidnbaaRefF
import Derived.Deep.LoopGhost
import Derived.Deep.RegionLaw
namespace Go.Proofs.Ytnfpjholmidnbaa
open Go.RowKit

/-- append of one, as an equation of the builtin: only a block that both share has changed -/
theorem run_append_one {P : Program} (w : World) (base : Nat) (t ty e : TypeId) (i : TypeInfo) (z : Value) (bytes : Nat) (ht : P.underlying t = some (.slice e)) (hi : P.info? e = some i) (hz : i.zero = some z)
    (hsize : i.size = 1) (hby : i.bytes = bytes) (hzs : z.cells.size = 1) (v : Value) (n : Nat) (xs : List Value) (hown : w.ownsRow base e 1 v n xs)
    (g c : Nat) (u : Value) (hu : w.cell? ⟨g, 0, none⟩ = some u) (h1 : u.oneCell' = true) (h63 : n + 1 ≤ maxLen) (hbytes : (n + 1) * bytes ≤ 140737488355328) (hbase : base ≤ w.heap.size) :
    ∃ v' w', (Builtin.append_ #[t, t] ty #[v, .slice (some ⟨g, 0, none⟩) 1 c]).run P w = .ok v' w' ∧ w'.ownsRow base e 1 v' (n + 1) (xs ++ [u]) ∧ Fr (fun k => v.ownBlock = some k ∧ v'.ownBlock = some k) w w' ∧ ∀ k, v'.ownBlock = some k → v.ownBlock = some k ∨ w.heap.size ≤ k := by
  have hnews : ∀ j y, [u][j]? = some y → w.cell? ((⟨g, 0, none⟩ : Addr).add j) = some y := by
    intro j y hj
    match j, hj with
    | 0, hj => simp at hj; subst hj; simpa [Addr.add] using hu
  have hone : ∀ y ∈ [u], y.oneCell' = true := by intro y hy; simp at hy; subst hy; exact h1
  have grow : ∀ {v' w'}, w'.ownsRow w.heap.size e 1 v' (n + 1) (xs ++ [u]) → w.grownBy w' none → w'.ownsRow base e 1 v' (n + 1) (xs ++ [u]) ∧ Fr (fun k => v.ownBlock = some k ∧ v'.ownBlock = some k) w w' ∧ ∀ k, v'.ownBlock = some k → v.ownBlock = some k ∨ w.heap.size ≤ k := fun {v' w'} h2 h3 => by
    refine ⟨?_, (Fr.refl _ w).grown h3 (fun k hk => by cases hk), fun k hk => .inr (h2.lt k hk).1⟩
    obtain ⟨hl, hh | ⟨g', cap', cur', hv, hg', rest'⟩⟩ := h2
    · exact ⟨hl, .inl hh⟩
    · exact ⟨hl, .inr ⟨g', cap', cur', hv, Nat.le_trans hbase hg', rest'⟩⟩
  rcases hown.2 with ⟨rfl, rfl⟩ | ⟨G, cap, cur, rfl, hbg, hg, hnc, hcm, hcs, htake⟩
  · have hx0 : xs = [] := List.eq_nil_of_length_eq_zero (by simpa using hown.1)
    subst hx0
    obtain ⟨v', w', hrun, r1, r2, _⟩ := run_append_own (P := P) w w.heap.size t ty e i z 1 bytes ht hi hz hsize hby hzs (by decide) (.slice none 0 0) 0 [] (World.ownsRow_nil w _ e 1) ⟨g, 0, none⟩ 1 c [u] (by simp) hnews hone h63 hbytes (Nat.le_refl _)
    exact ⟨v', w', hrun, grow r1 r2⟩
  · by_cases hroom : n + 1 ≤ cap
    · obtain ⟨w', hrun, r1, r2⟩ := run_append_fits (P := P) w base t ty e i 1 ht hi hsize G n cap xs hown ⟨g, 0, none⟩ 1 c [u] (by simp) hnews hone hroom
      exact ⟨_, w', hrun, r1, (Fr.refl _ w).grown r2 (fun k hk _ => by cases hk; exact ⟨rfl, rfl⟩), fun k hk => .inl hk⟩
    · obtain ⟨v', w', hrun, r1, r2⟩ := run_append_arg_grows (P := P) w t ty e i z 1 bytes ht hi hz hsize hby hzs (by decide) ⟨G, 0, none⟩ n cap xs hown.1 (fun j y hj => hown.cells rfl j y hj) ⟨g, 0, none⟩ 1 c [u] (by simp) hnews (by omega) h63 hbytes
      exact ⟨v', w', hrun, grow r1 r2⟩

/-- .. as one step of a region that draws -/
theorem step_append_one {P : Program} {ops : Array Oper} {o : Oper} {a : Act} {w : World} {K : Act → World → Prop} {Q : Exit → Act → World → Prop} {E : Prop} (hgd : o.guard = none) (s x : Operand) (t : TypeId)
    (ho : o.op = .call { callee := .builtin .append, args := #[s, x], argTypes := #[t, t] }) (base : Nat) (e : TypeId) (i : TypeInfo) (z : Value) (bytes : Nat) (ht : P.underlying t = some (.slice e)) (hi : P.info? e = some i) (hz : i.zero = some z)
    (hsize : i.size = 1) (hby : i.bytes = bytes) (hzs : z.cells.size = 1) (v : Value) (n : Nat) (xs : List Value) (hs : a.eval s = v) (hown : w.ownsRow base e 1 v n xs)
    (g c : Nat) (u : Value) (hx : a.eval x = .slice (some ⟨g, 0, none⟩) 1 c) (hu : w.cell? ⟨g, 0, none⟩ = some u) (h1 : u.oneCell' = true) (h63 : n + 1 ≤ maxLen) (hbytes : (n + 1) * bytes ≤ 140737488355328) (hbase : base ≤ w.heap.size)
    (h : ∀ v' w', w'.ownsRow base e 1 v' (n + 1) (xs ++ [u]) → Fr (fun k => v.ownBlock = some k ∧ v'.ownBlock = some k) w w' → (∀ k, v'.ownBlock = some k → v.ownBlock = some k ∨ w.heap.size ≤ k) → K (a.put o.dst v') w') :
    if Region.wanted o (yielded ops a.tmps) = true then Oper.wp P o a w K Q else E := by
  have hw : Region.wanted o (yielded ops a.tmps) = true := by simp [Region.wanted, hgd]
  rw [if_pos hw]
  obtain ⟨v', w', hrun, r1, r2, r3⟩ := run_append_one (P := P) w base t o.type e i z bytes ht hi hz hsize hby hzs v n xs hown g c u hu h1 h63 hbytes hbase
  unfold Oper.wp
  simp [execOp, ho, resolve, invoke, builtin, hs, hx, hrun, Result.andThen]
  exact h v' w' r1 r2 r3

/-- what a Put leaves -/
@[irreducible] def PutPost (base Q : Nat) (bv : Value) (q data : List Int) (rd wt : Int) (ar aw : Bool) (w : World) (e : Ending) (w' : World) : Prop :=
  ∃ bv', e = .returned (.tuple #[.int .i64 (putK data q (!ar)), .int .i64 (putHow data q (!ar))]) ∧ RefAt w' base Q bv' (q ++ data.take (putK data q (!ar))) rd ((wt + (putK data q (!ar) : Nat)) % 4294967296) ar aw ∧
    (∀ k, bv'.ownBlock = some k → bv.ownBlock = some k ∨ w.heap.size ≤ k) ∧ Fr (RefFP Q bv) w w'

theorem PutPost.none {base Q : Nat} {bv : Value} {q data : List Int} {rd wt : Int} {ar aw : Bool} {w : World} (h : RefAt w base Q bv q rd wt ar aw) (hr : 0 ≤ wt ∧ wt < 4294967296) (hk : putK data q (!ar) = 0) (how : Int) (hh : how = putHow data q (!ar)) :
    PutPost base Q bv q data rd wt ar aw w (.returned (.tuple #[.int .i64 0, .int .i64 how])) w := by
  unfold PutPost
  rw [hk, hh]
  have e : (wt + (0 : Nat)) % 4294967296 = wt := by simp; omega
  exact ⟨bv, rfl, by rw [e]; simpa using h, fun k hk => .inl hk, Fr.refl _ _⟩

/-- where the loop has ended -/
theorem refput_end {base Q : Nat} {bv bk : Value} {q data X : List Int} {rd wt : Int} {aw : Bool} {w wr : World} {k : Nat} {how : Int} (h : RefAt wr base Q bk X rd wt true aw) (hX : X = q ++ data.take k) (hbk : ∀ j, bk.ownBlock = some j → bv.ownBlock = some j ∨ w.heap.size ≤ j) (hfr : Fr (RefFP Q bv) w wr)
    (hde : ¬ data = []) (hK : putK data q false = k) (hH : how = putHow data q false) :
    PutPost base Q bv q data rd wt true aw w (.returned (.tuple #[.int .i64 k, .int .i64 how])) (wr.setCell ⟨Q, 2, none⟩ (.int .u32 ((wt + (k : Nat)) % 4294967296))) := by
  unfold PutPost
  simp only [Bool.not_true]
  rw [hK, hH, ← hX]
  have hf : Fr (· = Q) wr (wr.setCell ⟨Q, 2, none⟩ (.int .u32 ((wt + (k : Nat)) % 4294967296))) := (Fr.refl (· = Q) wr).setCell (p := ⟨Q, 2, none⟩) (fun _ => rfl) _
  refine ⟨bk, rfl, ⟨by have := h.1; simp; omega, ?_, row_fr h.2.2 hf (fun j hj hh => h.ne j hj hh)⟩, hbk, hfr.trans hf (fun x _ hh => .inl hh)⟩
  have := h.2.1.set 2 (.int .u32 ((wt + (k : Nat)) % 4294967296))
  simpa using this

set_option maxRecDepth 100000 in
set_option maxHeartbeats 3200000 in
theorem refput_calls (base Q : Nat) (bv v : Value) (q data : List Int) (rd wt : Int) (ar aw : Bool) (w : World) (h : RefAt w base Q bv q rd wt ar aw) (hd : BSl w v data) (hoff : data ≠ [] → ∀ k, v.ownBlock = some k → ¬ RefFP Q bv k) (hdlt : ∀ k, data ≠ [] → v.ownBlock = some k → k < w.heap.size) (hq : q.length ≤ 512) (hr : 0 ≤ wt ∧ wt < 4294967296) :
    Calls Try.prog 31 #[.pointer (some ⟨Q, 0, none⟩), v] w (PutPost base Q bv q data rd wt ar aw w) := by
  obtain ⟨i5, hi5, hz0, hz1, hz2⟩ := info_parts infoU8
  obtain ⟨ao, c, rfl⟩ := hd.shape
  obtain ⟨⟨c0, c1, c2, c3, c4⟩, f0, f1, f2, f3, f4⟩ := slot5 h.2.1
  have hdl := hd.len
  by_cases hde : data = []
  · subst hde
    have FIN := Lib.hid (PutPost.none (data := []) h hr (by simp [putK]) 1 (by simp [putHow]))
    clear h hd
    go_enter Try.func31, Try.ntmps31
    go_wp2
    go_ret2
    exact FIN.out
  · have hlen : 0 < data.length := List.length_pos_iff.2 hde
    have hz : ((data.length : Int) == 0) = false := by simp; omega
    have hDL := hdlt
    clear hdlt
    cases ar
    · have FIN := Lib.hid (PutPost.none (data := data) h hr (by simp [putK]) 3 (by simp [putHow, hde]))
      clear h hd hde
      go_enter Try.func31, Try.ntmps31
      go_wp2
      go_ret2
      exact FIN.out
    · obtain ⟨_, _, hv, _, _, _, hcell⟩ := hd
      cases hv
      obtain ⟨bb, oo, rfl, hcc⟩ := hcell hde
      have hbl : bb < w.heap.size := hDL bb hde rfl
      have hbo : ¬ RefFP Q bv bb := hoff hde bb rfl
      clear hcell hoff hDL
      have HC := Lib.hid hcc; clear hcc
      have HO := Lib.hid hbo; clear hbo
      have H := Lib.hid h; clear h
      have HDE := Lib.hid hde; clear hde
      go_enter Try.func31, Try.ntmps31
      go_wp2_with fail
      go_loopg [6] data.length (fun g s wx => ∃ (k : Nat) (bk : Value), k ≤ data.length ∧ q.length + k ≤ 512 ∧ g = data.length - k ∧ s = .int .i64 k ∧ RefAt wx base Q bk (q ++ data.take k) rd wt true aw ∧ (∀ j, bk.ownBlock = some j → bv.ownBlock = some j ∨ w.heap.size ≤ j) ∧ Fr (RefFP Q bv) w wx)
      case atStart => exact ⟨0, bv, Nat.zero_le _, by omega, rfl, rfl, by simpa using H.out, fun j hj => .inl hj, Fr.refl _ _⟩
      case round =>
        obtain ⟨k, bk, hk, hqk, rfl, rfl, href, hbk, hfr⟩ := hrel
        obtain ⟨⟨k0, k1, k2, k3, k4⟩, g0, g1, g2, g3, g4⟩ := slot5 href.2.1
        have hql : (q ++ data.take k).length = q.length + k := by simp; omega
        obtain ⟨X, hX⟩ : ∃ X, X = q ++ data.take k := ⟨_, rfl⟩
        rw [← hX] at href hql
        obtain ⟨L, hL⟩ : ∃ L, L = X.length := ⟨_, rfl⟩
        obtain ⟨bo, bc, rfl⟩ := href.shape
        rw [← hL] at k0 href hbk hql
        have hrow := href.2.2
        unfold Row at hrow
        rw [← hL] at hrow
        have hbase := href.1
        have HROW := Lib.hid hrow; clear hrow
        have HL := Lib.hid hL; clear hL
        have HQL := Lib.hid hql; clear hql
        have HREF := Lib.hid href; clear href
        have HBK := Lib.hid hbk; clear hbk
        have HFR := Lib.hid hfr; clear hfr
        have HX := Lib.hid hX; clear hX
        have hLi : (L : Int) = (q.length : Int) + k := by have := HQL.out; omega
        have hL2 : L = q.length + k := by have := HQL.out; omega
        have HL2 := Lib.hid hL2; clear hL2 hLi
        by_cases hlt : k < data.length
        · by_cases h512 : L < 512
          · have hdc := HFR.out.cell (HC.out k hlt) HO.out
            have hws := HFR.out.size
            have hQl : Q < wr.heap.size := HREF.out.2.1.lt
            have hL3 : decide ((L : Int) < 512) = true := by simp; omega
            have hQb : ¬ (Value.slice bo L bc).ownBlock = some Q := fun hh => HREF.out.ne Q hh rfl
            have HQB := Lib.hid hQb; clear hQb
            go_wp2_with fail
            go_region_law (first
              | (refine step_append_one rfl (.tmp 31) (.tmp 36) 34 rfl base 5 i5 (.int .u8 0) 1 Try.underlying34 hi5 hz0 hz1 hz2 rfl (.slice bo L bc) L _ rfl (HROW.out.drew.alloc _) wr.heap.size 1 (.int .u8 data[k]) rfl ((Blk.new wr.drew [Value.int .u8 data[k]] 5).cell 0) rfl (by unfold maxLen; omega) (by omega) (by simp; omega) ?_
                 intro v' w' n1 n2 n3
                 obtain ⟨va, vc, rfl, _⟩ := row_shape n1
                 have m0 := (n2.cell (p := ⟨Q, 0, none⟩) (show (wr.drew.alloc (.cells #[Value.int .u8 data[k]] 5)).cell? ⟨Q, 0, none⟩ = some (.slice bo L bc) from ((Fr.refl No wr).drew.alloc _).cell k0 id) (fun hh => HQB.out hh.1))
                 have hfn : Fr (fun k => (Value.slice bo L bc).ownBlock = some k ∧ (Value.slice va (L + 1) vc).ownBlock = some k) wr w' := ((Fr.refl _ wr).drew.alloc _).trans n2 (fun _ _ h => h)
                 have hb2 := HREF.out.2.1.fr hfn (fun hh => HQB.out hh.1)
                 have m1 := hb2.free 0
                 have N1 := Lib.hid n1
                 have N2 := Lib.hid hfn
                 have N3 := Lib.hid n3
                 clear n1 n2 n3 hfn hb2))
            all_goals
              have hnb : ¬ (Value.slice va (L + 1) vc).ownBlock = some Q := fun hh => by
                rcases N3.out Q hh with h1 | h1
                · exact HQB.out h1
                · have h2 : wr.heap.size + 1 ≤ Q := by simpa using h1
                  omega
              have hfs : Fr (· = Q) w' (w'.setCell ⟨Q, 0, none⟩ (.slice va (L + 1) vc)) := (Fr.refl (· = Q) w').setCell (p := ⟨Q, 0, none⟩) (fun _ => rfl) _
              have hnx : RefAt (w'.setCell ⟨Q, 0, none⟩ (.slice va (L + 1) vc)) base Q (.slice va (L + 1) vc) (q ++ data.take (k + 1)) rd wt true aw := by
                refine ⟨by have := N2.out.size; simp; omega, ?_, ?_⟩
                · have := (HREF.out.2.1.fr N2.out (fun hh => HQB.out hh.1)).set 0 (.slice va (L + 1) vc)
                  simpa using this
                · have e1 : q ++ data.take (k + 1) = X ++ [data[k]] := by rw [HX.out, take_snoc_get data k hlt, List.append_assoc]
                  have e2 : (X ++ [data[k]]).length = L + 1 := by rw [HL.out]; simp
                  unfold Row
                  rw [e1, e2, List.map_append]
                  exact row_fr N1.out hfs (fun j hj hh => hnb (hh ▸ hj))
              have HNX := Lib.hid hnx; clear hnx
              have HBN := Lib.hid (show ∀ j, (Value.slice va (L + 1) vc).ownBlock = some j → bv.ownBlock = some j ∨ w.heap.size ≤ j from fun j hj => by
                rcases N3.out j hj with h1 | h1
                · exact HBK.out j h1
                · have h2 : wr.heap.size + 1 ≤ j := by simpa using h1
                  exact .inr (by omega))
              have HFN := Lib.hid (show Fr (RefFP Q bv) w (w'.setCell ⟨Q, 0, none⟩ (.slice va (L + 1) vc)) from (HFR.out.trans N2.out (fun x hx hh => by
                rcases HBK.out x hh.1 with h1 | h1
                · exact .inr h1
                · omega)).trans hfs (fun x _ hh => .inl hh))
              have hkq : q.length + (k + 1) ≤ 512 := by have := HL2.out; omega
              clear hfs hnb
              go_wp2_with fail
              go_roundg (data.length - (k + 1))
              case measure => omega
              case rel => exact ⟨k + 1, _, by omega, hkq, rfl, by go_num, HNX.out, HBN.out, HFN.out⟩
          · have hK : putK data q false = k := by
              have := HL2.out
              simp only [putK, HDE.out]
              simp; omega
            have hH : putHow data q false = 2 := by simp [putHow, HDE.out, hK, hlt]
            have hw9 : IntKind.u32.wrap (k : Int) = k := IntWalk.u32_in _ (by omega)
            have hL3 : decide ((L : Int) < 512) = false := by simp; omega
            have HFIN := Lib.hid (refput_end (how := 2) HREF.out HX.out HBK.out HFR.out HDE.out hK hH.symm)
            clear hK hH
            go_wp2_with fail
            go_ret2
            exact HFIN.out
        · have hke : k = data.length := by omega
          have hK : putK data q false = k := by
            simp only [putK, HDE.out]
            simp; omega
          have hH : putHow data q false = 1 := by simp [putHow, HDE.out, hK, hke]
          have hw9 : IntKind.u32.wrap (k : Int) = k := IntWalk.u32_in _ (by omega)
          have HFIN := Lib.hid (refput_end (how := 1) HREF.out HX.out HBK.out HFR.out HDE.out hK hH.symm)
          clear hK hH
          subst hke
          go_wp2_with fail
          go_ret2
          exact HFIN.out

end Go.Proofs.Ytnfpjholmidnbaa
