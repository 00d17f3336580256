/- The moves that the laws make of raw numbers. -/
import Derived.Test.YtmfkgbncnaingaaDisk3
import Derived.StillTailTactics
import Derived.Deep.RegionLaw
namespace Go.Proofs.Ytmfkgbncnaingaa.Disk
open Go.RowKit Go.Proofs.Ytmfkgbncnaingaa.QDisk Go.Proofs.YtmfkgbncnaingaaW.PrintWords Go.Proofs.YtmfkgbncnaingaaW.PrintLast Go.Proofs.YtmfkgbncnaingaaW.PrintMore

theorem info32 : (Try.prog.info? 32).map (fun i => (i.zero, i.size, i.bytes)) = some (some (.agg #[.int .i64 0, .slice none 0 0, .int .i64 0]), 3, 40) := by kernel_rfl

theorem tmod_fix {a n : Int} (h0 : 0 < n) (h1 : n ≤ 1000000) : (Int.tmod a n < 0 → wrap64 (Int.tmod a n + n) = a % n) ∧ (¬ Int.tmod a n < 0 → Int.tmod a n = a % n) := by
  have hr0 := Int.emod_nonneg a (show n ≠ 0 by omega)
  have hr1 := Int.emod_lt_of_pos a h0
  have ht := Int.tmod_eq_emod (a := a) (b := n)
  by_cases hc : 0 ≤ a ∨ n ∣ a
  · rw [if_pos hc] at ht
    exact ⟨fun h => by omega, fun _ => by omega⟩
  · rw [if_neg hc] at ht
    exact ⟨fun h => by unfold wrap64; omega, fun h => by omega⟩

set_option maxHeartbeats 1000000 in
theorem Picked_any (w : World) (a n : Int) (h0 : 0 < n) (h1 : n ≤ 1000000) :
    Calls Try.prog 31 #[.int .i64 a, .int .i64 n] w fun e w' => e = .returned (.int .i64 (a % n)) ∧ ∃ m, w' = w.drewN m := by
  have hf := tmod_fix (a := a) h0 h1
  have c3 : ¬ n = 0 := by omega
  have c3b0 : (n == 0) = false := beq_eq_false_iff_ne.mpr (by omega)
  have c3b1 : (n != 0) = true := bne_iff_ne.mpr (by omega)
  clear h0 h1
  by_cases c4 : Int.tmod a n < 0
  · have HE := Aside0.mk (hf.1 c4)
    have c4b0 : decide (Int.tmod a n < 0) = true := decide_eq_true c4
    clear c4 hf
    go_enter Try.func31, Try.ntmps31
    go_wp2
    go_ret
    exact ⟨by rw [← HE.out]; rfl, (Drawn0.refl w).out⟩
  · have HE := Aside0.mk (hf.2 c4)
    have c4b0 : decide (Int.tmod a n < 0) = false := decide_eq_false c4
    clear c4 hf
    go_enter Try.func31, Try.ntmps31
    go_wp2
    go_ret
    exact ⟨by rw [← HE.out]; rfl, (Drawn0.refl w).out⟩

/-- A byte of the data. -/
def byteAt (x : Int) (j : Nat) : Int := (wrap64 (Int.tdiv x 64) % 250 + j) % 256
def dataOf (x : Int) (n : Nat) : List Int := (List.range n).map (byteAt x)
def cnt (x : Int) : Nat := (wrap64 (Int.tdiv x 8) % 9).toNat
/-- The move of a raw number. -/
def moveOf (x : Int) : S32 :=
  if x % 8 = 5 then ⟨2, [], 0⟩ else if x % 8 = 6 then ⟨3, [], wrap64 (Int.tdiv x 8) % 30⟩ else if x % 8 = 7 then ⟨4, [], wrap64 (Int.tdiv x 8) % 12⟩ else ⟨1, dataOf x (cnt x), 0⟩

/-- Behind the draws of a region and of a call: what is held at the new world. -/
theorem after_pick {w wo wr w1 : World} {Ad : Option Addr} {cd a m2 : Nat} {D : List Int} (hm : w1 = (wr.drewN a).drewN m2) (hbox : wr.heap[wo.heap.size]? = some (.cells #[.int .i64 1, .slice Ad D.length cd, .int .i64 0] 32 (0, 0))) (hD : (Kd.int .u8).R 5 wr w.heap.size (fun k => wo.heap.size < k) (.slice Ad D.length cd) D) (hB : Below w.heap.size w wo) (hBj : Below wo.heap.size wo wr) :
    Aside0 ((Kd.int .u8).R 5 w1 w.heap.size (fun k => wo.heap.size < k) (.slice Ad D.length cd) D) ∧ Aside0 (Below w.heap.size w w1) ∧ Aside0 (∀ k, w1.heap.size ≤ k → wo.heap.size < k) ∧ w1.cell? ⟨wo.heap.size, 1, none⟩ = some (.slice Ad D.length cd) ∧ (∀ o, (w1.alloc o).cell? ⟨wo.heap.size, 1, none⟩ = some (.slice Ad D.length cd)) ∧ Aside0 (w1.heap[wo.heap.size]? = some (.cells #[.int .i64 1, .slice Ad D.length cd, .int .i64 0] 32 (0, 0))) ∧ Aside0 (Below wo.heap.size wo w1) := by
  subst hm
  have h1 := blk_lt hbox
  exact ⟨⟨Kd.R_drewN (Kd.R_drewN hD _) _⟩, ⟨hB.trans ((pw_below_drewN (pw_below_drewN hBj _) _).mono hB.size)⟩, ⟨fun k hk => Nat.lt_of_lt_of_le h1 hk⟩, (blk_cell hbox 1).trans rfl, fun o => (blk_cell (blk_alloc (w := (wr.drewN a).drewN m2) hbox o) 1).trans rfl, ⟨hbox⟩, ⟨pw_below_drewN (pw_below_drewN hBj _) _⟩⟩

/-- Behind the append: what is held, and what will be held when the row is stored back. -/
theorem after_append {w wo w1 w3 : World} {v v3 : Value} {D D3 : List Int} (hD : (Kd.int .u8).R 5 w1 w.heap.size (fun k => wo.heap.size < k) v D) (hbox : w1.heap[wo.heap.size]? = some (.cells #[.int .i64 1, v, .int .i64 0] 32 (0, 0))) (hBj : Below wo.heap.size wo w1) (hg : w1.grownBy w3 v.ownBlock) (h3 : (Kd.int .u8).R 5 w3 w.heap.size (fun k => wo.heap.size < k) v3 D3) :
    w3.cell? ⟨wo.heap.size, 1, none⟩ = some v ∧ w3.frozen? ⟨wo.heap.size, 1, none⟩ = false ∧ Aside0 ((w3.setCell ⟨wo.heap.size, 1, none⟩ v3).heap[wo.heap.size]? = some (.cells #[.int .i64 1, v3, .int .i64 0] 32 (0, 0)) ∧ (Kd.int .u8).R 5 (w3.setCell ⟨wo.heap.size, 1, none⟩ v3) w.heap.size (fun k => wo.heap.size < k) v3 D3 ∧ Below wo.heap.size wo (w3.setCell ⟨wo.heap.size, 1, none⟩ v3)) := by
  have hb3 := blk_grown hbox hg (Kd.R_ne hD hbox (by decide))
  refine ⟨(blk_cell hb3 1).trans rfl, blk_frozen hb3 1, ⟨by simpa using blk_set hb3 1 v3, Kd.R_far h3 (fun k hk => by show k ≠ wo.heap.size; omega) _, ?_⟩⟩
  exact Below.setCell (pw_below_grown hBj v.ownBlock hBj.size hg (fun k hk => Nat.le_of_lt (hD.1 k hk))) (Nat.le_refl _) _

theorem data_snoc (x : Int) (j : Nat) : dataOf x j ++ [byteAt x j] = dataOf x (j + 1) := by simp [dataOf, List.range_succ]

/-- What is below the round's own blocks. -/
theorem S_low {wr : World} {base : Nat} {v : Value} {xs : List S32} (h : Kd.S k32 32 wr base (fun _ => True) v xs) : Kd.S k32 32 wr base (fun k => k < wr.heap.size) v xs :=
  Kd.S_mono (Kd.S_bound h) (fun _ hk => hk.2.2.1)

theorem moves_snoc (l : List Int) (i : Nat) (h : i < l.length) : (l.take (i + 1)).map moveOf = (l.take i).map moveOf ++ [moveOf (rd l (i : Int))] := by
  rw [List.take_succ_eq_append_getElem h, List.map_append]
  simp [rd, List.getD_eq_getElem?_getD, h]

set_option maxRecDepth 100000 in
set_option maxHeartbeats 4000000 in
theorem Moves_walk (A0 : Option Addr) (c0 : Nat) (l : List Int) (n : Int) (w : World) (hr : Kd.C (Kd.int .i64) w A0 l.length l) (hl : l.length ≤ 140737488351232) (hn1000 : n ≤ 1000) :
    Calls Try.prog 27 #[.slice A0 l.length c0, .int .i64 n] w fun e w' => ∃ v, e = .returned v ∧ Kd.S k32 32 w' w.heap.size (fun _ => True) v ((l.take n.toNat).map moveOf) ∧ Below w.heap.size w w' := by
  have HR := Aside0.mk hr
  clear hr
  go_enter Try.func27, Try.ntmps27
  go_wp2
  go_loopg [5, 6] (l.length) (fun kq v5 v6 wr => ∃ (i : Nat), v6 = .int .i64 i ∧ Aside0 (kq + i = l.length) ∧ Aside0 ((i : Int) ≤ n ∨ i = 0) ∧ Aside0 (Kd.S k32 32 wr w.heap.size (fun _ => True) v5 ((l.take i).map moveOf)) ∧ Aside0 (Below w.heap.size w wr))
  case atStart => exact ⟨0, rfl, ⟨by omega⟩, ⟨.inr rfl⟩, ⟨Kd.S_nil _ _ _ _ _⟩, ⟨Below.refl _ _⟩⟩
  case round =>
    obtain ⟨i, rfl, hK, hN, hS, hB⟩ := hrel
    by_cases hlt : i < l.length
    · by_cases hn : (i : Int) < n
      · obtain ⟨ad, rfl, hx⟩ := Kd.at_int HR.out (i : Int) (by omega) (by omega)
        have hx2 := (hB.out.cell (World.block_lt_of_cell? w _ hx)).trans hx
        rw [Int.toNat_natCast] at hx2
        clear hx
        generalize hxx : rd l (i : Int) = x at hx2
        have HX := Aside0.mk hxx
        clear hxx
        have S0 := Aside0.mk (S_low hS.out)
        have HLT := Aside0.mk hlt
        have hN2 := Aside0.mk hn
        by_cases h5 : x % 8 = 5
        · have HM := Aside0.mk (show moveOf x = ⟨2, [], 0⟩ by simp [moveOf, h5])
          have e5 : (x % 8 == 5) = true := beq_iff_eq.2 h5
          clear h5
          go_wp2_with (first | (go_at_call 31; refine (Picked_any _ _ _ (by decide) (by decide)).mono ?_; rintro e w1 ⟨rfl, m, rfl⟩) | (at_builtin; refine Kd.S_append k32 (w0 := w) w.heap.size rfl (.tmp 61) (.tmp 63) 26 32 (.agg #[.int .i64 0, .slice none 0 0, .int .i64 0]) 40 rfl Try.underlying26 info32 rfl (by decide) (by omega) _ ((l.take i).map moveOf) ⟨2, [], 0⟩ [.int .i64 2, .slice none 0 0, .int .i64 0] (fun _ => True) (fun _ => False) rfl (by first | (go_simp; done) | (go_simp; rfl)) (k32_mkM _ _ _ (⟨2, [], 0⟩ : S32) (Kd.R_nil _ _ _ _ _)) (fun _ h => h.elim) (fun _ _ => trivial) (Kd.S_mono (show Kd.S k32 32 _ w.heap.size (fun k => k < wr.heap.size) _ _ from (by repeat (first | exact S0.out | apply Kd.S_alloc | apply Kd.S_drewN | refine Kd.S_far ?_ (fun k hk => by show k ≠ wr.heap.size; omega) _))) (fun _ _ => ⟨trivial, id⟩)) (by repeat (first | exact hB.out | apply below_alloc | apply pw_below_drewN | refine Below.setCell ?_ (by have := hB.out.size; show w.heap.size ≤ wr.heap.size; omega) _)) (by have := hB.out.size; simp; omega) (by simp; omega) ?_; intro v2 w2 ho hb _ _; have HS2 := Aside0.mk ho; have HB2 := Aside0.mk hb; clear ho hb))
          all_goals
            go_roundg (gk - 1)
            case measure => have := hK.out; omega
            case rel => exact ⟨i + 1, by go_num, ⟨by have := hK.out; omega⟩, ⟨.inl (by have := hN2.out; omega)⟩, ⟨by rw [moves_snoc l i HLT.out, HX.out, HM.out]; exact HS2.out⟩, HB2⟩
        · by_cases h6 : x % 8 = 6
          · have HM := Aside0.mk (show moveOf x = ⟨3, [], wrap64 (Int.tdiv x 8) % 30⟩ by simp [moveOf, h6])
            have e5 : (x % 8 == 5) = false := beq_eq_false_iff_ne.2 h5
            have e6 : (x % 8 == 6) = true := beq_iff_eq.2 h6
            clear h5 h6
            go_wp2_with (first | (go_at_call 31; refine (Picked_any _ _ _ (by decide) (by decide)).mono ?_; rintro e w1 ⟨rfl, m, rfl⟩) | (at_builtin; refine Kd.S_append k32 (w0 := w) w.heap.size rfl (.tmp 61) (.tmp 63) 26 32 (.agg #[.int .i64 0, .slice none 0 0, .int .i64 0]) 40 rfl Try.underlying26 info32 rfl (by decide) (by omega) _ ((l.take i).map moveOf) ⟨3, [], wrap64 (Int.tdiv x 8) % 30⟩ [.int .i64 3, .slice none 0 0, .int .i64 (wrap64 (Int.tdiv x 8) % 30)] (fun _ => True) (fun _ => False) rfl (by first | (go_simp; done) | (go_simp; rfl)) (k32_mkM _ _ _ (⟨3, [], wrap64 (Int.tdiv x 8) % 30⟩ : S32) (Kd.R_nil _ _ _ _ _)) (fun _ h => h.elim) (fun _ _ => trivial) (Kd.S_mono (show Kd.S k32 32 _ w.heap.size (fun k => k < wr.heap.size) _ _ from (by repeat (first | exact S0.out | apply Kd.S_alloc | apply Kd.S_drewN | refine Kd.S_far ?_ (fun k hk => by show k ≠ wr.heap.size; omega) _))) (fun _ _ => ⟨trivial, id⟩)) (by repeat (first | exact hB.out | apply below_alloc | apply pw_below_drewN | refine Below.setCell ?_ (by have := hB.out.size; show w.heap.size ≤ wr.heap.size; omega) _)) (by have := hB.out.size; simp; omega) (by simp; omega) ?_; intro v2 w2 ho hb _ _; have HS2 := Aside0.mk ho; have HB2 := Aside0.mk hb; clear ho hb))
            all_goals
              go_roundg (gk - 1)
              case measure => have := hK.out; omega
              case rel => exact ⟨i + 1, by go_num, ⟨by have := hK.out; omega⟩, ⟨.inl (by have := hN2.out; omega)⟩, ⟨by rw [moves_snoc l i HLT.out, HX.out, HM.out]; exact HS2.out⟩, HB2⟩
          · by_cases h7 : x % 8 = 7
            · have HM := Aside0.mk (show moveOf x = ⟨4, [], wrap64 (Int.tdiv x 8) % 12⟩ by simp [moveOf, h7])
              have e5 : (x % 8 == 5) = false := beq_eq_false_iff_ne.2 h5
              have e6 : (x % 8 == 6) = false := beq_eq_false_iff_ne.2 h6
              have e7 : (x % 8 == 7) = true := beq_iff_eq.2 h7
              clear h5 h6 h7
              go_wp2_with (first | (go_at_call 31; refine (Picked_any _ _ _ (by decide) (by decide)).mono ?_; rintro e w1 ⟨rfl, m, rfl⟩) | (at_builtin; refine Kd.S_append k32 (w0 := w) w.heap.size rfl (.tmp 61) (.tmp 63) 26 32 (.agg #[.int .i64 0, .slice none 0 0, .int .i64 0]) 40 rfl Try.underlying26 info32 rfl (by decide) (by omega) _ ((l.take i).map moveOf) ⟨4, [], wrap64 (Int.tdiv x 8) % 12⟩ [.int .i64 4, .slice none 0 0, .int .i64 (wrap64 (Int.tdiv x 8) % 12)] (fun _ => True) (fun _ => False) rfl (by first | (go_simp; done) | (go_simp; rfl)) (k32_mkM _ _ _ (⟨4, [], wrap64 (Int.tdiv x 8) % 12⟩ : S32) (Kd.R_nil _ _ _ _ _)) (fun _ h => h.elim) (fun _ _ => trivial) (Kd.S_mono (show Kd.S k32 32 _ w.heap.size (fun k => k < wr.heap.size) _ _ from (by repeat (first | exact S0.out | apply Kd.S_alloc | apply Kd.S_drewN | refine Kd.S_far ?_ (fun k hk => by show k ≠ wr.heap.size; omega) _))) (fun _ _ => ⟨trivial, id⟩)) (by repeat (first | exact hB.out | apply below_alloc | apply pw_below_drewN | refine Below.setCell ?_ (by have := hB.out.size; show w.heap.size ≤ wr.heap.size; omega) _)) (by have := hB.out.size; simp; omega) (by simp; omega) ?_; intro v2 w2 ho hb _ _; have HS2 := Aside0.mk ho; have HB2 := Aside0.mk hb; clear ho hb))
              all_goals
                go_roundg (gk - 1)
                case measure => have := hK.out; omega
                case rel => exact ⟨i + 1, by go_num, ⟨by have := hK.out; omega⟩, ⟨.inl (by have := hN2.out; omega)⟩, ⟨by rw [moves_snoc l i HLT.out, HX.out, HM.out]; exact HS2.out⟩, HB2⟩
            · have HM := Aside0.mk (show moveOf x = ⟨1, dataOf x (cnt x), 0⟩ by simp [moveOf, h5, h6, h7])
              have e5 : (x % 8 == 5) = false := beq_eq_false_iff_ne.2 h5
              have e6 : (x % 8 == 6) = false := beq_eq_false_iff_ne.2 h6
              have e7 : (x % 8 == 7) = false := beq_eq_false_iff_ne.2 h7
              clear h5 h6 h7
              obtain ⟨wo, rfl⟩ : ∃ wo : World, wo = wr := ⟨_, rfl⟩
              go_wp2_with (go_at_call 31; refine (Picked_any _ _ _ (by decide) (by decide)).mono ?_; rintro e w1 ⟨rfl, m, rfl⟩)
              go_loopg [9] (cnt x) (fun kq v9 w2 => ∃ (j : Nat) (dv : Value), v9 = .int .i64 j ∧ Aside0 (kq + j = cnt x) ∧ Aside0 (w2.heap[wo.heap.size]? = some (.cells #[.int .i64 1, dv, .int .i64 0] 32 (0, 0))) ∧ Aside0 ((Kd.int .u8).R 5 w2 w.heap.size (fun k => wo.heap.size < k) dv (dataOf x j)) ∧ Aside0 (Below wo.heap.size wo w2))
              case atStart => exact ⟨0, .slice none 0 0, rfl, ⟨by omega⟩, ⟨blk_drewN (by simpa using heap_alloc_new wo _) _⟩, ⟨Kd.R_nil _ _ _ _ _⟩, ⟨pw_below_drewN (below_alloc (Below.refl _ _) _) _⟩⟩
              case round =>
                obtain ⟨j, dv, rfl, hKj, hbox, hD, hBj⟩ := hrel
                have hq0 := Int.emod_nonneg (wrap64 (Int.tdiv x 8)) (show (9 : Int) ≠ 0 by decide)
                have hcnt : ((cnt x : Nat) : Int) = wrap64 (Int.tdiv x 8) % 9 := by unfold cnt; omega
                have hq1 := Int.emod_lt_of_pos (wrap64 (Int.tdiv x 8)) (show (0 : Int) < 9 by decide)
                by_cases hj : j < cnt x
                · have hjb : decide ((j : Int) < wrap64 (Int.tdiv x 8) % 9) = true := decide_eq_true (by omega)
                  obtain ⟨Ad, cd, rfl, _, _⟩ := Kd.R_reads hD.out
                  have hc1 := (blk_cell hbox.out 1).trans rfl
                  have hf1 := blk_frozen hbox.out 1
                  have hj9 : j < 9 := by omega
                  have HJ := Aside0.mk hj
                  have hw1 : IntKind.i64.wrap (Int.tdiv x 64) = wrap64 (Int.tdiv x 64) := i64_w _
                  have hm0 := Int.emod_nonneg (wrap64 (Int.tdiv x 64)) (show (250 : Int) ≠ 0 by decide)
                  have hm1 := Int.emod_lt_of_pos (wrap64 (Int.tdiv x 64)) (show (0 : Int) < 250 by decide)
                  have hw2 : IntKind.i64.wrap (wrap64 (Int.tdiv x 64) % 250 + (j : Int)) = wrap64 (Int.tdiv x 64) % 250 + j := IntWalk.i64_in _ (by omega)
                  have hw3 : IntKind.u8.wrap (wrap64 (Int.tdiv x 64) % 250 + (j : Int)) = byteAt x j := by unfold byteAt; rw [IntKind.wrap_u8]
                  have HPick := Aside0.mk (fun (W : World) {R : Ending → World → Prop} (h : ∀ e w', (e = .returned (.int .i64 (wrap64 (Int.tdiv x 64) % 250)) ∧ ∃ m, w' = W.drewN m) → R e w') => (Picked_any W (wrap64 (Int.tdiv x 64)) 250 (by decide) (by decide)).mono h)
                  clear hm0 hm1
                  have HLen := Aside0.mk (show ((dataOf x j).length + 1) * 1 ≤ 140737488355328 by simp [dataOf]; omega)
                  clear hcnt hj
                  go_wp2_with (go_at_call 31; refine (Picked_any _ _ _ (by decide) (by decide)).mono ?_; rintro e w1 ⟨rfl, m, rfl⟩)
                  go_region_law (first
                    | (go_simp; go_at_call 31; refine HPick.out _ ?_; intro e w1 hpk; obtain ⟨rfl, m2, hm2⟩ := hpk; obtain ⟨HD1, HB1, HFr, hc3, hc4, HBox1, HBj1⟩ := after_pick hm2 hbox.out hD.out hB.out hBj.out; clear hm2)
                    | (refine Kd.R_append_step (Kd.int .u8) (w0 := w) w.heap.size rfl (.tmp 36) (.tmp 43) 25 5 (.int .u8 0) 1 rfl Try.underlying25 info5 rfl (by decide) (by omega) _ (dataOf x j) (byteAt x j) [.int .u8 (byteAt x j)] (fun k => wo.heap.size < k) (fun _ => False) (by simp [Act.eval]) (by simp [Act.eval]) rfl (fun _ h => h.elim) HFr.out HD1.out HB1.out (below_size HB1.out) HLen.out ?_; intro v3 w3 ho hb hg _; obtain ⟨A3, c3, rfl, _, _⟩ := Kd.R_reads ho; obtain ⟨hc5, hf5, HFin⟩ := after_append HD1.out HBox1.out HBj1.out hg ho; clear ho hb hg))
                  all_goals
                    have hx := HFin.out
                    rw [List.length_append] at hx
                    have HX3 := Aside0.mk hx
                    clear hx HFin hw1 hw2 hw3 hc3 hc4 hc5 hf5 hjb hc1 hf1
                    go_wp2
                    go_roundg (cnt x - (j + 1))
                    case measure => have h1_ := hKj.out; have h2_ := HJ.out; omega
                    case rel => exact ⟨j + 1, _, by go_num, ⟨by have := HJ.out; omega⟩, ⟨HX3.out.1⟩, ⟨by rw [← data_snoc]; exact HX3.out.2.1⟩, ⟨HX3.out.2.2⟩⟩
                · have hjb : decide ((j : Int) < wrap64 (Int.tdiv x 8) % 9) = false := decide_eq_false (by omega)
                  have hje : j = cnt x := by have := hKj.out; omega
                  subst hje
                  obtain ⟨Ad, cd, rfl, _, _⟩ := Kd.R_reads hD.out
                  have hc0 := (blk_cell hbox.out 0).trans rfl
                  have hc1 := (blk_cell hbox.out 1).trans rfl
                  have hc2 := (blk_cell hbox.out 2).trans rfl
                  clear hcnt hj
                  go_wp2_with (first | (go_at_call 31; refine (Picked_any _ _ _ (by decide) (by decide)).mono ?_; rintro e w1 ⟨rfl, m, rfl⟩) | (at_builtin; refine Kd.S_append k32 (w0 := w) w.heap.size rfl (.tmp 61) (.tmp 63) 26 32 (.agg #[.int .i64 0, .slice none 0 0, .int .i64 0]) 40 rfl Try.underlying26 info32 rfl (by decide) (by omega) _ ((l.take i).map moveOf) ⟨1, dataOf x (cnt x), 0⟩ [.int .i64 1, .slice Ad (dataOf x (cnt x)).length cd, .int .i64 0] (fun _ => True) (fun k => wo.heap.size < k) rfl (by first | (go_simp; done) | (go_simp; rfl)) (k32_mkM _ _ _ (⟨1, dataOf x (cnt x), 0⟩ : S32) (by repeat (first | exact hD.out | apply Kd.R_drewN | apply Kd.R_drew))) (fun k hk => ⟨trivial, fun e => by have h_ := (Kd.S_R S0.out).1 k e.symm; omega⟩) (fun _ _ => trivial) (Kd.S_mono (Kd.S_below S0.out (by repeat (first | exact hBj.out | apply pw_below_drewN | apply below_drew))) (fun k hk => ⟨trivial, by omega⟩)) (by repeat (first | exact hB.out.trans (hBj.out.mono hB.out.size) | apply pw_below_drewN | apply below_drew)) (by have h1_ := hB.out.size; have h2_ := hBj.out.size; simp; omega) (by simp; omega) ?_; intro v2 w2 ho hb _ _; have HS2 := Aside0.mk ho; have HB2 := Aside0.mk hb; clear ho hb))
                  all_goals
                    go_roundg (l.length - (i + 1))
                    case measure => have := hK.out; omega
                    case rel => exact ⟨i + 1, by go_num, ⟨by have := HLT.out; omega⟩, ⟨.inl (by have := hN2.out; omega)⟩, ⟨by rw [moves_snoc l i HLT.out, HX.out, HM.out]; exact HS2.out⟩, HB2⟩
      · have HT := Aside0.mk (show l.take n.toNat = l.take i by
          rcases hN.out with h | h
          · rw [show n.toNat = i by omega]
          · subst h; rw [show n.toNat = 0 by omega])
        have hnb := decide_eq_false hn
        clear hn
        go_wp2
        go_ret
        exact ⟨_, rfl, by rw [HT.out]; exact hS.out, hB.out⟩
    · have HT := Aside0.mk (show l.take n.toNat = l.take i by
        have hil : i = l.length := by have := hK.out; omega
        rcases hN.out with h | h
        · rw [hil, List.take_of_length_le (Nat.le_refl _), List.take_of_length_le (by omega)]
        · have h0 : l = [] := List.eq_nil_of_length_eq_zero (by omega)
          rw [h0]; simp)
      go_wp2
      go_ret
      exact ⟨_, rfl, by rw [HT.out]; exact hS.out, hB.out⟩

end Go.Proofs.Ytmfkgbncnaingaa.Disk
namespace Go.Proofs.Ytmfkgbncnaingaa.QDisk
open Go.RowKit Go.Proofs.Ytmfkgbncnaingaa.Disk Go.Proofs.YtmfkgbncnaingaaW.PrintWords Go.Proofs.YtmfkgbncnaingaaW.PrintLast Go.Proofs.YtmfkgbncnaingaaW.PrintMore

def bagnallkeep_Moves.f (l0 : List Int) (a1 : Int) : Option (List S32) :=
  if l0.length ≤ 140737488351232 ∧ a1 ≤ 1000 then some ((l0.take a1.toNat).map moveOf) else none
theorem bagnallkeep_Moves.calls (A0 : Option Addr) (c0 : Nat) (l0 : List Int) (a1 : Int) (r : List S32) (w : World) (hr0 : Kd.C (Kd.int .i64) w A0 l0.length l0) (_hc0 : l0.length ≤ c0) (h : bagnallkeep_Moves.f l0 a1 = some r) :
    Calls Try.prog 27 #[.slice A0 l0.length c0, .int .i64 a1] w fun e w' => ∃ v0_ : Value, e = .returned v0_ ∧ Kd.S k32 32 w' w.heap.size (fun _ => True) v0_ r ∧ Below w.heap.size w w' := by
  unfold bagnallkeep_Moves.f at h
  by_cases hh : l0.length ≤ 140737488351232 ∧ a1 ≤ 1000
  · rw [if_pos hh] at h
    obtain rfl := Option.some.inj h
    exact Moves_walk A0 c0 l0 a1 w hr0 hh.1 hh.2
  · rw [if_neg hh] at h; cases h

end Go.Proofs.Ytmfkgbncnaingaa.QDisk
