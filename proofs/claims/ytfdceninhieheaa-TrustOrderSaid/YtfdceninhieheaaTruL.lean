/- append onto a row of the call's own that is read behind it once more. -/
import Derived.Test.YtfdceninhieheaaGTru
namespace Go.Proofs.Ytfdceninhieheaa.Tru
open Go Go.RowKit Go.Maps Go.Proofs.Ytfdceninhieheaa.Reg Go.Proofs.Ytfdceninhieheaa.QTrust Go.Proofs.YtfdceninhieheaaW.PrintWords Go.Proofs.YtfdceninhieheaaW.PrintLast Go.Proofs.YtfdceninhieheaaW.PrintMore
set_option linter.unusedVariables false
set_option linter.unusedSimpArgs false

theorem reps_append {α : Type} {R : α → List Value → Prop} {size : Nat} {ps qs : List α} {cs ds : List Value} (h : Reps R size ps cs) (k : Reps R size qs ds) : Reps R size (ps ++ qs) (cs ++ ds) := by
  refine ⟨by rw [List.length_append, List.length_append, h.1, k.1, Nat.add_mul], fun j p hj => ?_⟩
  by_cases hlt : j < ps.length
  · rw [List.getElem?_append_left hlt] at hj
    have h1 := h.2 j p hj
    have h2 : (j + 1) * size ≤ cs.length := by rw [h.1]; exact Nat.mul_le_mul_right _ hlt
    rw [Nat.add_mul, Nat.one_mul] at h2
    rw [List.drop_append_of_le_length (by omega), List.take_append_of_le_length (by rw [List.length_drop]; omega)]
    exact h1
  · rw [List.getElem?_append_right (by omega)] at hj
    have h1 := k.2 _ p hj
    have h2 : j * size = cs.length + (j - ps.length) * size := by rw [h.1, ← Nat.add_mul]; congr 1; omega
    rw [h2, List.drop_append, List.drop_of_length_le (by omega), List.nil_append, Nat.add_sub_cancel_left]
    exact h1
theorem info54_parts : ∃ i z b, Try.prog.info? 54 = some i ∧ i.zero = some z ∧ i.size = 4 ∧ i.bytes = b ∧ z.cells.size = 4 ∧ b = 32 := by
  obtain ⟨i, hi, he⟩ := Option.map_eq_some_iff.1 info54
  simp only [Prod.mk.injEq] at he
  exact ⟨i, _, _, hi, he.1, he.2.1, rfl, rfl, he.2.2⟩
/-- A certificate's cells. -/
def cells54 (x : S54) : List Value := [.int .i64 x.f0, .int .i64 x.f1, .int .i64 x.f2.f0, .int .i64 x.f2.f1]

theorem cells54_one (x : S54) : ∀ u ∈ cells54 x, u.oneCell' = true := by
  intro u hu
  unfold cells54 at hu
  simp only [List.mem_cons, List.not_mem_nil, or_false] at hu
  rcases hu with h | h | h | h <;> rw [h] <;> rfl

theorem run_stands {w : World} {base c : Nat} {ty : TypeId} {ok : Nat → Prop} {v : Value} {xs ys : List S54} {A : Option Addr} (h : Kd.R k54 54 w base ok v xs) (hy : Kd.C k54 w A ys.length ys) (hl : xs.length + ys.length ≤ 1000) (hbase : base ≤ w.heap.size) :
    ∃ v1 w1, (Builtin.append_ #[49, 49] ty #[v, .slice A ys.length c]).run Try.prog w = .ok v1 w1 ∧ (∃ A1 c1, v1 = .slice A1 (xs ++ ys).length c1 ∧ (xs ++ ys).length ≤ c1 ∧ Kd.C k54 w1 A1 (xs ++ ys).length (xs ++ ys)) ∧
      (∃ A0 c0, v = .slice A0 xs.length c0 ∧ xs.length ≤ c0 ∧ Kd.C k54 w1 A0 xs.length xs) ∧ w.grownBy w1 v.ownBlock := by
  have hR := h
  obtain ⟨hok, inner, hown, hreps⟩ := h
  obtain ⟨i, z, b, hi, hz, hs, hby, hzs, hb32⟩ := info54_parts
  subst hb32
  have hsz4 : k54.sz = 4 := rfl
  have hmx : (1000 : Nat) ≤ maxLen := by unfold maxLen; decide
  have hin : Reps (fun x c => c = cells54 x) 4 xs inner := hreps.imp_ (fun p c hp => k54_openM hp)
  obtain ⟨A0, c0, hv0, hc0, hC0⟩ := Kd.R_reads hR
  rcases A with _ | a
  · have h0 : ys.length = 0 := by
      rcases Nat.eq_zero_or_pos ys.length with h0 | h0
      · exact h0
      · obtain ⟨ad, h, _⟩ := hy.2.2 h0; cases h
    obtain rfl : ys = [] := List.eq_nil_of_length_eq_zero h0
    refine ⟨v, w, ?_, ?_, ⟨A0, c0, hv0, hc0, hC0⟩, World.grownBy.refl w _⟩
    · rcases hown.2 with ⟨rfl, hn⟩ | ⟨g, cap, cur, rfl, _, _, hnc, _⟩
      · simp [Builtin.append_, run_underlying Try.underlying49, sizeOf, typeInfo, hi, Builtin.lenOf, Builtin.firstCells]
      · simp [Builtin.append_, run_underlying Try.underlying49, sizeOf, typeInfo, hi, Builtin.lenOf, Builtin.firstCells, hnc, storeCells]
    · rw [List.append_nil]; exact ⟨A0, c0, hv0, hc0, hC0⟩
  · obtain ⟨news, hnr, hnc⟩ := ReadsRow.inner_ hy
    have hnr2 : Reps (fun x c => c = cells54 x) 4 ys news := hnr.imp_ (fun p c hp => k54_open hp)
    have hone : ∀ u ∈ news, u.oneCell' = true := by
      intro u hu
      obtain ⟨q, hq, rfl⟩ := List.mem_iff_getElem.1 hu
      have hql : q / 4 < ys.length := by rw [Nat.div_lt_iff_lt_mul (by decide)]; rw [← hnr2.1]; exact hq
      have h1 := hnr2.2 (q / 4) ys[q / 4] (List.getElem?_eq_getElem hql)
      have h2 : ((news.drop (q / 4 * 4)).take 4)[q % 4]? = news[q]? := by
        rw [List.getElem?_take_of_lt (Nat.mod_lt _ (by decide)), List.getElem?_drop, show q / 4 * 4 + q % 4 = q by omega]
      rw [h1, List.getElem?_eq_getElem hq] at h2
      have h3 := List.mem_of_getElem? h2
      exact cells54_one _ _ h3
    have hnl : news.length = ys.length * 4 := hnr2.1
    obtain ⟨v1, w1, hr, ho, hg, _, _⟩ := run_append_own_at (P := Try.prog) w base 49 ty 54 i z 4 32 Try.underlying49 hi hz hs hby hzs (by decide) v xs.length inner hown a ys.length c news hnl hnc hone (by omega) (by omega) hbase
    have hC1 : ∃ A1 c1, v1 = .slice A1 (xs ++ ys).length c1 ∧ (xs ++ ys).length ≤ c1 ∧ Kd.C k54 w1 A1 (xs ++ ys).length (xs ++ ys) :=
      OwnRow.reads (R := k54.K w1) (e := 54) (size := 4) (base := base) ⟨inner ++ news, by rw [List.length_append]; exact ho, (reps_append hin hnr2).imp_ (fun p c hp => by rw [hp]; exact k54_mk w1 p)⟩
    refine ⟨v1, w1, hr, hC1, ?_, hg⟩
    rcases hown.2 with ⟨hvn, hn⟩ | ⟨g, cap, cur, hv, hgb, hgh, hncap, hcm, hcs, htake⟩
    · obtain rfl : xs = [] := List.length_eq_zero_iff.1 hn
      exact ⟨none, 0, hvn, Nat.le_refl _, Kd.C_nil _ _⟩
    · subst hv
      have hcur : ∀ j u, inner[j]? = some u → w.cell? ((⟨g, 0, none⟩ : Addr).add j) = some u := fun j u hj => by
        rw [add_plain]
        refine (blk_cell hgh j).trans ?_
        have hjl := (List.getElem?_eq_some_iff.1 hj).1
        rw [← htake, List.getElem?_take_of_lt (by have h1 := hin.1; rw [hsz4]; omega)] at hj
        simpa using hj
      by_cases hcap : cap < xs.length + ys.length
      · obtain ⟨v2, w2, hr2, _, hg2⟩ := run_append_arg_grows (P := Try.prog) (w := w) 49 ty 54 i z 4 32 Try.underlying49 hi hz hs hby hzs (by decide) ⟨g, 0, none⟩ xs.length cap inner hin.1 hcur a ys.length c news hnl hnc hcap (by omega) (by omega)
        rw [hr] at hr2
        injection hr2 with e1 e2
        subst e2
        exact ⟨A0, c0, hv0, hc0, Kd.C_below hC0 ⟨hg2.os, hg2.tape, hg2.output, hg2.size, fun k hk => hg2.block k hk (by simp)⟩⟩
      · have hr2 := run_append_room_cells (P := Try.prog) (w := w) 49 ty 54 i Try.underlying49 hi g 0 xs.length cap a ys.length c news (by rw [hs]; exact hnl) hnc hone (by omega)
          (fun j hj => by rw [Nat.zero_add]; rw [show w.cell? ⟨g, xs.length * i.size + j, none⟩ = _ from blk_cell hgh _]; rw [Array.getElem?_eq_getElem (by rw [hcs, hs, hsz4]; omega)]; rfl)
          (fun j _ => blk_frozen hgh _)
        rw [hr] at hr2
        injection hr2 with e1 e2
        obtain ⟨A1, c1, hv1, hl1, hC⟩ := hC1
        rw [hv1] at e1
        injection e1 with e3 e4 e5
        subst e3
        have h5 := Kd.C_take hC (show xs.length ≤ (xs ++ ys).length by rw [List.length_append]; omega)
        rw [List.take_left] at h5
        exact ⟨some ⟨g, 0, none⟩, cap, rfl, by omega, h5⟩

/-- .. at the operation. -/
theorem wpList_append_stands {ops : Array Oper} {rest : List Oper} {o : Oper} {a : Act} {Q : Exit → Act → World → Prop} {w : World}
    (hg : o.guard = none) (s x : Operand) (ho : o.op = .call { callee := .builtin .append, args := #[s, x], argTypes := #[49, 49] }) {base c : Nat} {ok : Nat → Prop} {v : Value} {xs ys : List S54} {A : Option Addr} (hs : a.eval s = v) (hx : a.eval x = .slice A ys.length c)
    (h : Kd.R k54 54 w base ok v xs) (hy : Kd.C k54 w A ys.length ys) (hl : xs.length + ys.length ≤ 1000) (hbase : base ≤ w.heap.size)
    (hK : ∀ A1 c1 A0 c0 w', v = .slice A0 xs.length c0 → xs.length ≤ c0 → Kd.C k54 w' A0 xs.length xs → (xs ++ ys).length ≤ c1 → Kd.C k54 w' A1 (xs ++ ys).length (xs ++ ys) → w.grownBy w' v.ownBlock → wpList Try.prog ops Q rest (a.put o.dst (.slice A1 (xs ++ ys).length c1)) w') :
    wpList Try.prog ops Q (o :: rest) a w := by
  refine wpList_plain hg fun K' hK' => ?_
  obtain ⟨v1, w1, hrun, ⟨A1, c1, rfl, h1, h2⟩, ⟨A0, c0, h3, h4, h5⟩, h6⟩ := run_stands (ty := o.type) (c := c) h hy hl hbase
  refine Gives.wp (K := fun v x => v = .slice A1 (xs ++ ys).length c1 ∧ x = w1) (gives_append ho (by rw [hs, hx]; exact hrun) ⟨rfl, rfl⟩) ?_
  rintro v x ⟨rfl, rfl⟩
  exact hK' _ _ (hK A1 c1 A0 c0 _ h3 h4 h5 h1 h2 h6)

/-! What reach answers lies in a row of the call's own. -/
set_option maxRecDepth 100000 in
set_option maxHeartbeats 8000000 in
theorem reach_own (good : S54 → Bool) (root : Int) (A0 : Option Addr) (c0 : Nat) (l : List S54) (w : World) (kk kf : Nat) (R : Found) (hr : Kd.C k54 w A0 l.length l) (hc : l.length ≤ c0) (hl : l.length ≤ 1000) (hg : ∀ c ∈ l, Told good c) (hroot : I64 root)
    (hf : trust_fault.f kf root l = some 0) (hR : bfs (fun k => sorted (outs good l k)) kk [(root, root)] [root] = some R) (hRl : R.length ≤ 900) :
    Calls Try.prog 42 #[.int .i64 root, .slice A0 l.length c0] w fun e w' => ∃ A c, e = .returned (.tuple #[.slice A (keysOf R).length c, .int .i64 0]) ∧ w'.ownsInts w.heap.size 3 .i64 (.slice A (keysOf R).length c) (keysOf R) ∧ Below w.heap.size w w' := by
  have ha := bfs_apart _ _ _ _ _ hR (one_apart root)
  have HA := Aside0.mk (And.intro ha hRl)
  have HW := Aside0.mk (fun W (h : Kd.C k54 W A0 l.length l) => walk_calls good root A0 c0 l W kk R h hc hl hg hroot hR hRl)
  have HF := Aside0.mk (fun W (h : Kd.C k54 W A0 l.length l) => trust_fault.calls kf root A0 c0 l 0 W h hc hf)
  have HR := Aside0.mk hr
  clear hr hc hl hg hroot hf hR hRl ha
  go_enter Try.func42, Try.ntmps42
  go_wp2_with (first
    | (go_at_call 39; refine (HF.out w HR.out).mono ?_; rintro e w1 ⟨rfl, ⟨m1, rfl⟩⟩)
    | (go_at_call 40; refine (HW.out _ (Kd.C_drewN HR.out _)).mono ?_; rintro e w2 ⟨b, rfl, hF, hbw, hb⟩; have HFm := Aside0.mk hF; have HB := Aside0.mk hb; clear hF hbw hb)
    | (go_at_call 50; refine (keys_calls (some b) w2).mono ?_; rintro e w3 ⟨rfl, rfl⟩)
    | (go_at_call 49; refine (sorted_calls HFm.out HA.out.1 HA.out.2).mono ?_; rintro e w4 ⟨v, rfl, hO, hb⟩; obtain ⟨A5, c5, rfl, _, _⟩ := ints_C hO; have HO := Aside0.mk hO; have HB4 := Aside0.mk hb; clear hO hb))
  go_ret2
  refine ⟨A5, c5, rfl, ints_lower HO.out (by have := HB.out.size; simp at this; omega), ?_⟩
  exact ((pw_below_drewN (Below.refl _ _) m1).trans (HB.out.mono (Nat.le_refl _))).trans (HB4.out.mono HB.out.size)

theorem reachO (a : Nat) (h0 : 1 ≤ a) (h1 : a ≤ 10) (A : Option Addr) (c : Nat) (cs : List S54) (w : World) (hr : Kd.C k54 w A cs.length cs) (hc : cs.length ≤ c) (hl : cs.length ≤ 60) (hv : VCs cs) :
    Calls Try.prog 42 #[.int .i64 (kE a), .slice A cs.length c] w fun e w' => ∃ A c, e = .returned (.tuple #[.slice A (keysOf (Rof cs (kE a))).length c, .int .i64 0]) ∧ w'.ownsInts w.heap.size 3 .i64 (.slice A (keysOf (Rof cs (kE a))).length c) (keysOf (Rof cs (kE a))) ∧ Below w.heap.size w w' :=
  reach_own goodB (kE a) A c cs w 100 700 _ hr hc (by omega) (fun c hc => (hv c hc).told) (kE64 a) (fault_ok a h0 h1 cs hl) (Rof_spec cs (kE a) hl).1 (by have := (Rof_spec cs (kE a) hl).2; omega)

set_option maxRecDepth 100000 in
set_option maxHeartbeats 8000000 in
theorem reachedO (a : Nat) (h0 : 1 ≤ a) (h1 : a ≤ 10) (A : Option Addr) (c : Nat) (cs : List S54) (w : World) (hr : Kd.C k54 w A cs.length cs) (hc : cs.length ≤ c) (hl : cs.length ≤ 60) (hv : VCs cs) :
    Calls Try.prog 29 #[.int .i64 (kE a), .slice A cs.length c] w fun e w' => ∃ A c, e = .returned (.tuple #[.slice A (keysOf (Rof cs (kE a))).length c, .bool true]) ∧ w'.ownsInts w.heap.size 3 .i64 (.slice A (keysOf (Rof cs (kE a))).length c) (keysOf (Rof cs (kE a))) ∧ Below w.heap.size w w' := by
  have HRe := Aside0.mk (fun A c w hr hc => reachO a h0 h1 A c cs w hr hc hl hv)
  obtain ⟨xs, hxs⟩ : ∃ xs, xs = keysOf (Rof cs (kE a)) := ⟨_, rfl⟩
  obtain ⟨z, hz⟩ : ∃ z, z = kE a := ⟨_, rfl⟩
  rw [← hxs, ← hz] at HRe ⊢
  have HR := Aside0.mk hr
  have HL := Aside0.mk hl
  clear hr hc hl hv hxs hz
  go_enter Try.func29, Try.ntmps29
  go_upto_region 3 with (first
    | ((with_reducible refine gate_builtin (b := .append) (xs := #[.const _, .tmp 12]) rfl ?_); at_builtin; refine Kd.R_append_rows k54 (w0 := w) w.heap.size rfl (.const (.slice none 0 0)) (.tmp 12) 49 54 _ _ rfl Try.underlying49 info54 rfl (by decide) (by omega) (.slice none 0 0) ([] : List S54) cs _ _ _ (fun _ => True) (fun _ => False) rfl rfl (Kd.R_nil _ _ _ _ _) HR.out (fun x cs h => by rw [k54_open h]; exact k54_mkM _ _ _ x) (fun _ h => h.elim) (fun _ _ => trivial) (Below.refl _ _) (Nat.le_refl _) (by have := HL.out; simp; omega) ?_; intro v1 wa ho hb _ _; obtain ⟨Aa, ca, rfl⟩ := Kd.R_slice ho; have HC := Aside0.mk ho; have HBa := Aside0.mk hb; clear ho hb)
    | (have _still := HC; go_at_call 42; refine (HRe.out Aa ca wa (Kd.R_reads' HC.out).2.2 (Kd.R_reads' HC.out).2.1).mono ?_; rintro e w2 ⟨A2, c2, rfl, k2, hb⟩; have HX := Aside0.mk (ints_lower k2 HBa.out.size); have HB2 := Aside0.mk (HBa.out.trans (hb.mono HBa.out.size)); clear hb k2 HC _still)
    | (go_at_call 42; refine (reach4 _).mono ?_; rintro e w3 ⟨ad, c3, rfl, hcl, hb⟩; have HB3 := Aside0.mk hb; clear hb))
  go_quiet (fail)
  go_wp2
  go_ret2
  exact ⟨A2, c2, rfl, ownsInts_below HX.out (HB3.out.trans (pw_below_drewN (Below.refl _ _) _)), HB2.out.trans ((HB3.out.trans (pw_below_drewN (Below.refl _ _) _)).mono HB2.out.size)⟩

end Go.Proofs.Ytfdceninhieheaa.Tru
