/- What bagnallkeep.Changes comes to. -/
import Derived.Test.YtmfkgbncnaingaaReg2
import Derived.Test.YtmfkgbncnaingaaQRowsx9
import Derived.Test.YtmfkgbncnaingaaRows2
namespace Go.Proofs.Ytmfkgbncnaingaa.Rows
open Go.RowKit Go.Lib Go.Proofs.Ytmfkgbncnaingaa.Reg Go.Proofs.Ytmfkgbncnaingaa.QRows Go.Proofs.YtmfkgbncnaingaaW.PrintWords Go.Proofs.YtmfkgbncnaingaaW.PrintLast Go.Proofs.YtmfkgbncnaingaaW.PrintMore

def keyTab : Array ByteArray := #[⟨#[97]⟩, ⟨#[98]⟩, ⟨#[97, 98]⟩, ⟨#[97, 99]⟩, ⟨#[98, 255]⟩, ⟨#[107]⟩, ⟨#[107, 49]⟩, ⟨#[255]⟩]
def valTab : Array ByteArray := #[⟨#[]⟩, ⟨#[120]⟩, ⟨#[121]⟩, ⟨#[122, 122]⟩]
/-- One of n: as Picked. -/
def pickN (x : Int) (n : Nat) : Nat := (if Int.tmod x n < 0 then Int.tmod x n + n else Int.tmod x n).toNat
theorem pickN_lt (x : Int) (n : Nat) (hn : 0 < n) : pickN x n < n := by
  unfold pickN
  have h1 := Int.tmod_lt_of_pos x (show (0 : Int) < n by omega)
  have h2 := Int.lt_tmod_of_pos x (show (0 : Int) < n by omega)
  split <;> omega
theorem Picked_is (x : Int) (n : Nat) (hn : 0 < n) (hn2 : n ≤ 1000000) : bagnallkeep_Picked.f x n = some ((pickN x n : Nat) : Int) := by
  unfold bagnallkeep_Picked.f pickN
  have h1 := Int.tmod_lt_of_pos x (show (0 : Int) < n by omega)
  have h2 := Int.lt_tmod_of_pos x (show (0 : Int) < n by omega)
  rw [if_neg (by omega)]
  by_cases h : Int.tmod x n < 0
  · rw [if_pos h, if_pos h, Int.toNat_of_nonneg (by omega)]
    congr 1
    unfold wrap64; omega
  · rw [if_neg h, if_neg h, Int.toNat_of_nonneg (by omega)]
/-- The change that a number makes. -/
def rowOf (x : Int) : S67 := ⟨keyTab.getD (pickN x 8) ⟨#[]⟩, valTab.getD (pickN (IntKind.i64.wrap (Int.tdiv x 8)) 4) ⟨#[]⟩⟩
def changesOf (l : List Int) (n : Int) : List S67 := (l.take n.toNat).map rowOf

def keyCells : Array Value := #[.string ⟨#[97]⟩, .string ⟨#[98]⟩, .string ⟨#[97, 98]⟩, .string ⟨#[97, 99]⟩, .string ⟨#[98, 255]⟩, .string ⟨#[107]⟩, .string ⟨#[107, 49]⟩, .string ⟨#[255]⟩]
def valCells : Array Value := #[.string ⟨#[]⟩, .string ⟨#[120]⟩, .string ⟨#[121]⟩, .string ⟨#[122, 122]⟩]
theorem keyCells_at (p : Nat) (h : p < 8) : keyCells[p]? = some (.string (keyTab.getD p ⟨#[]⟩)) := by
  match p, h with
  | 0, _ | 1, _ | 2, _ | 3, _ | 4, _ | 5, _ | 6, _ | 7, _ => rfl
theorem valCells_at (p : Nat) (h : p < 4) : valCells[p]? = some (.string (valTab.getD p ⟨#[]⟩)) := by
  match p, h with
  | 0, _ | 1, _ | 2, _ | 3, _ => rfl

theorem Picked8 (x : Int) (n : Nat) (hn : 0 < n) (hn2 : n ≤ 1000000) (w : World) : Calls Try.prog 31 #[.int .i64 x, .int .i64 n] w fun e w' => e = .returned (.int .i64 (pickN x n : Nat)) ∧ Below w.heap.size w w' :=
  (bagnallkeep_Picked.calls x n _ w (Picked_is x n hn hn2)).mono fun e w' ⟨he, hd⟩ => ⟨he, by obtain ⟨m, rfl⟩ := hd; exact pw_below_drewN (Below.refl _ _) m⟩

theorem cell_below {w w' : World} {a : Addr} {u : Value} (h : w.cell? a = some u) (hb : Below w.heap.size w w') : w'.cell? a = some u := by
  rw [hb.cell (World.block_lt_of_cell? w a h)]; exact h

/-- The facts of the region that makes a change. -/
def F5 (B : Nat) (A0 : Addr) (len c0 i : Nat) (x : Int) (p q : Nat) (ks vs : ByteArray) : Nat → Value → World → Prop
  | 0 => FLit B keyCells 9 8
  | 1 => FIs (.slice (some A0) len c0)
  | 2 => FIs (.int .i64 i)
  | 3 => FIs (.pointer (some (A0.add i)))
  | 4 => FIs (.int .i64 x)
  | 5 => FIs (.int .i64 p)
  | 6 => FAt B keyCells 9 p
  | 7 => FIs (.string ks)
  | 8 => FLit B valCells 9 4
  | 9 => FIs (.slice (some A0) len c0)
  | 10 => FIs (.int .i64 i)
  | 11 => FIs (.pointer (some (A0.add i)))
  | 12 => FIs (.int .i64 x)
  | 13 => FIs (.int .i64 (IntKind.i64.wrap (Int.tdiv x 8)))
  | 14 => FIs (.int .i64 q)
  | 15 => FAt B valCells 9 q
  | 16 => FIs (.string vs)
  | 17 => FIs (.agg #[.string ks, .string vs])
  | _ => FAt B #[.string ⟨#[]⟩, .string ⟨#[]⟩] 67 0
theorem F5.last {B : Nat} {A0 : Addr} {len c0 i : Nat} {x : Int} {p q : Nat} {ks vs : ByteArray} (k : Nat) (v : Value) (w w' : World) (h : F5 B A0 len c0 i x p q ks vs k v w) (hb : Below w.heap.size w w') : F5 B A0 len c0 i x p q ks vs k v w' := by
  unfold F5 at *
  split at h <;> first | exact FIs.last h hb | exact FLit.last h hb | exact FAt.last h hb

set_option maxRecDepth 100000 in
set_option maxHeartbeats 4000000 in
theorem Changes_calls (A0 : Option Addr) (c0 : Nat) (l : List Int) (n : Int) (w : World) (hr : Kd.C (Kd.int .i64) w A0 l.length l) (_hc : l.length ≤ c0) (hn : n ≤ 1000) :
    Calls Try.prog 39 #[.slice A0 l.length c0, .int .i64 n] w fun e w' => ∃ v, e = .returned v ∧ k67.R 67 w' w.heap.size (fun _ => True) v (changesOf l n) ∧ Below w.heap.size w w' := by
  have HR := Aside0.mk hr
  have hm : l.length ≤ maxLen := hr.2.1
  unfold maxLen at hm
  clear hr
  go_enter Try.func39, Try.ntmps39
  go_wp2
  go_loopg [5, 6] (l.length) (fun kq v5 v6 wr => ∃ (i : Nat), v6 = .int .i64 i ∧ Aside0 (kq + i = l.length ∧ (i : Int) ≤ max n 0) ∧ Aside0 (k67.R 67 wr w.heap.size (fun _ => True) v5 ((l.take i).map rowOf)) ∧ Aside0 (Below w.heap.size w wr))
  case atStart => exact ⟨0, rfl, ⟨by omega, by omega⟩, ⟨Kd.R_nil _ _ _ _ _⟩, ⟨Below.refl _ _⟩⟩
  case round =>
    obtain ⟨i, rfl, hK, hO, hW⟩ := hrel
    by_cases hlt : i < l.length ∧ (i : Int) < n
    · obtain ⟨hlt, hin⟩ := hlt
      have hb1 : (i : Int) < (l.length : Int) := by omega
      have hwi : IntKind.i64.wrap ((i : Int) + 1) = (i : Int) + 1 := by rw [IntKind.wrap_i64]; omega
      go_wp2
      obtain ⟨ad, rfl, hx⟩ : ∃ ad, A0 = some ad ∧ wr.cell? (ad.add i) = some (.int .i64 (l.getD i 0)) := by
        obtain ⟨ad, c, e, _, hK, hc0⟩ := Kd.C_get (Kd.C_below HR.out hW.out) (0 : Int) (i : Int) (by omega) hb1
        obtain rfl := hK
        exact ⟨ad, e, by have h := hc0 0 _ rfl; rw [show (i : Int).toNat * (Kd.int .i64).sz + 0 = i by show (i : Int).toNat * 1 + 0 = i; omega, Int.toNat_natCast] at h; exact h⟩
      obtain ⟨x, hxl⟩ : ∃ x, x = l.getD i 0 := ⟨_, rfl⟩
      rw [← hxl] at hx
      have hXL := Aside0.mk hxl
      clear hxl
      obtain ⟨p, hp⟩ : ∃ p, p = pickN x 8 := ⟨_, rfl⟩
      obtain ⟨q, hq⟩ : ∃ q, q = pickN (IntKind.i64.wrap (Int.tdiv x 8)) 4 := ⟨_, rfl⟩
      have hp8 : p < 8 := by rw [hp]; exact pickN_lt _ _ (by omega)
      have hq4 : q < 4 := by rw [hq]; exact pickN_lt _ _ (by omega)
      have hpi : (p : Int) < 8 := by omega
      have hqi : (q : Int) < 4 := by omega
      have hp0 : (0 : Int) ≤ (p : Int) := by omega
      have hq0 : (0 : Int) ≤ (q : Int) := by omega
      obtain ⟨ks, hks⟩ : ∃ ks, ks = keyTab.getD p ⟨#[]⟩ := ⟨_, rfl⟩
      obtain ⟨vs, hvs⟩ : ∃ vs, vs = valTab.getD q ⟨#[]⟩ := ⟨_, rfl⟩
      have HKS := Aside0.mk (show keyCells[p]? = some (.string ks) by rw [hks]; exact keyCells_at p hp8)
      have HVS := Aside0.mk (show valCells[q]? = some (.string vs) by rw [hvs]; exact valCells_at q hq4)
      have HRow : Aside0 (rowOf (l.getD i 0) = ⟨ks, vs⟩) := Aside0.mk (by rw [← hXL.out, hks, hvs, hp, hq]; rfl)
      have HP := Aside0.mk hp
      have HQ := Aside0.mk hq
      clear hp hq hks hvs
      refine region_facts (by kernel_rfl) 19 (F5 wr.heap.size ad l.length c0 i x p q ks vs) (by kernel_rfl) F5.last ?_ ?_
      · refine ⟨?_, ?_, ?_, ?_, ?_, ?_, ?_, ?_, ?_, ?_, ?_, ?_, ?_, ?_, ?_, ?_, ?_, ?_, ?_, trivial⟩
        · intro ev w1 hb hc hf hg hbase hdep
          refine ⟨fun _ => ?_, fun h => absurd trivial h⟩
          unfold Gives
          go_simp
          exact ⟨⟨_, rfl, hb.size, new_block _ _⟩, below_alloc (Below.refl _ _) _⟩
        · intro ev w1 hb hc hf hg hbase hdep
          refine ⟨fun _ => ?_, fun h => absurd trivial h⟩
          have e0 : ev (.tmp 0) = .slice (some ad) l.length c0 := hbase 0 (by decide)
          unfold Gives
          go_simp
          exact ⟨rfl, Below.refl _ _⟩
        · intro ev w1 hb hc hf hg hbase hdep
          refine ⟨fun _ => ?_, fun h => absurd trivial h⟩
          have e0 : ev (.tmp 6) = .int .i64 i := hbase 6 (by decide)
          unfold Gives
          go_simp
          exact ⟨rfl, Below.refl _ _⟩
        · intro ev w1 hb hc hf hg hbase hdep
          refine ⟨fun _ => ?_, fun h => absurd trivial h⟩
          have e1 : ev (.tmp 20) = .slice (some ad) l.length c0 := hdep 1 (by decide)
          have e2 : ev (.tmp 21) = .int .i64 i := hdep 2 (by decide)
          unfold Gives
          go_simp
          exact ⟨rfl, Below.refl _ _⟩
        · intro ev w1 hb hc hf hg hbase hdep
          refine ⟨fun _ => ?_, fun h => absurd trivial h⟩
          have e1 : ev (.tmp 22) = .pointer (some (ad.add i)) := hdep 3 (by decide)
          have hc1 : w1.cell? (ad.add i) = some (.int .i64 x) := cell_below hx hb
          unfold Gives
          go_simp
          exact ⟨rfl, Below.refl _ _⟩
        · intro ev w1 hb hc hf hg hbase hdep
          refine ⟨fun _ => ?_, fun h => absurd trivial h⟩
          have e1 : ev (.tmp 23) = .int .i64 x := hdep 4 (by decide)
          unfold Gives
          go_simp
          refine (Picked8 x 8 (by omega) (by omega) w1).mono ?_
          rintro e w2 ⟨rfl, hb2⟩
          exact ⟨_, rfl, by rw [HP.out]; rfl, hb2⟩
        · intro ev w1 hb hc hf hg hbase hdep
          refine ⟨fun _ => ?_, fun h => absurd trivial h⟩
          obtain ⟨g, e1, hg0, hg1⟩ : FLit wr.heap.size keyCells 9 8 (ev (.tmp 19)) w1 := hdep 0 (by decide)
          have e2 : ev (.tmp 24) = .int .i64 p := hdep 5 (by decide)
          unfold Gives
          go_simp
          exact ⟨⟨g, by simp, hg0, hg1⟩, Below.refl _ _⟩
        · intro ev w1 hb hc hf hg hbase hdep
          refine ⟨fun _ => ?_, fun h => absurd trivial h⟩
          obtain ⟨g, e1, hg1⟩ := (show FAt wr.heap.size keyCells 9 p (ev (.tmp 25)) w1 from hdep 6 (by decide)).cell HKS.out
          unfold Gives
          go_simp
          exact ⟨rfl, Below.refl _ _⟩
        · intro ev w1 hb hc hf hg hbase hdep
          refine ⟨fun _ => ?_, fun h => absurd trivial h⟩
          unfold Gives
          go_simp
          exact ⟨⟨_, rfl, hb.size, new_block _ _⟩, below_alloc (Below.refl _ _) _⟩
        · intro ev w1 hb hc hf hg hbase hdep
          refine ⟨fun _ => ?_, fun h => absurd trivial h⟩
          have e0 : ev (.tmp 0) = .slice (some ad) l.length c0 := hbase 0 (by decide)
          unfold Gives
          go_simp
          exact ⟨rfl, Below.refl _ _⟩
        · intro ev w1 hb hc hf hg hbase hdep
          refine ⟨fun _ => ?_, fun h => absurd trivial h⟩
          have e0 : ev (.tmp 6) = .int .i64 i := hbase 6 (by decide)
          unfold Gives
          go_simp
          exact ⟨rfl, Below.refl _ _⟩
        · intro ev w1 hb hc hf hg hbase hdep
          refine ⟨fun _ => ?_, fun h => absurd trivial h⟩
          have e1 : ev (.tmp 28) = .slice (some ad) l.length c0 := hdep 9 (by decide)
          have e2 : ev (.tmp 29) = .int .i64 i := hdep 10 (by decide)
          unfold Gives
          go_simp
          exact ⟨rfl, Below.refl _ _⟩
        · intro ev w1 hb hc hf hg hbase hdep
          refine ⟨fun _ => ?_, fun h => absurd trivial h⟩
          have e1 : ev (.tmp 30) = .pointer (some (ad.add i)) := hdep 11 (by decide)
          have hc1 : w1.cell? (ad.add i) = some (.int .i64 x) := cell_below hx hb
          unfold Gives
          go_simp
          exact ⟨rfl, Below.refl _ _⟩
        · intro ev w1 hb hc hf hg hbase hdep
          refine ⟨fun _ => ?_, fun h => absurd trivial h⟩
          have e1 : ev (.tmp 31) = .int .i64 x := hdep 12 (by decide)
          unfold Gives
          go_simp
          exact ⟨rfl, Below.refl _ _⟩
        · intro ev w1 hb hc hf hg hbase hdep
          refine ⟨fun _ => ?_, fun h => absurd trivial h⟩
          have e1 : ev (.tmp 32) = .int .i64 (IntKind.i64.wrap (Int.tdiv x 8)) := hdep 13 (by decide)
          unfold Gives
          go_simp
          refine (Picked8 (IntKind.i64.wrap (Int.tdiv x 8)) 4 (by omega) (by omega) w1).mono ?_
          rintro e w2 ⟨rfl, hb2⟩
          exact ⟨_, rfl, by rw [HQ.out]; rfl, hb2⟩
        · intro ev w1 hb hc hf hg hbase hdep
          refine ⟨fun _ => ?_, fun h => absurd trivial h⟩
          obtain ⟨g, e1, hg0, hg1⟩ : FLit wr.heap.size valCells 9 4 (ev (.tmp 27)) w1 := hdep 8 (by decide)
          have e2 : ev (.tmp 33) = .int .i64 q := hdep 14 (by decide)
          unfold Gives
          go_simp
          exact ⟨⟨g, by simp, hg0, hg1⟩, Below.refl _ _⟩
        · intro ev w1 hb hc hf hg hbase hdep
          refine ⟨fun _ => ?_, fun h => absurd trivial h⟩
          obtain ⟨g, e1, hg1⟩ := (show FAt wr.heap.size valCells 9 q (ev (.tmp 34)) w1 from hdep 15 (by decide)).cell HVS.out
          unfold Gives
          go_simp
          exact ⟨rfl, Below.refl _ _⟩
        · intro ev w1 hb hc hf hg hbase hdep
          refine ⟨fun _ => ?_, fun h => absurd trivial h⟩
          have e1 : ev (.tmp 26) = .string ks := hdep 7 (by decide)
          have e2 : ev (.tmp 35) = .string vs := hdep 16 (by decide)
          unfold Gives
          go_simp
          exact ⟨rfl, Below.refl _ _⟩
        · intro ev w1 hb hc hf hg hbase hdep
          refine ⟨fun _ => ?_, fun h => absurd trivial h⟩
          unfold Gives
          go_simp
          exact ⟨⟨_, rfl, hb.size, new_block _ _⟩, below_alloc (Below.refl _ _) _⟩
      · intro y w1 hb hbase hF
        obtain ⟨g, e7, hg0, hg1⟩ : FAt wr.heap.size #[.string ⟨#[]⟩, .string ⟨#[]⟩] 67 0 (y 7) w1 := hF 18 (by decide)
        have e36 : y 36 = .agg #[.string ks, .string vs] := hF 17 (by decide)
        have e0 : y 0 = .slice (some ad) l.length c0 := hbase 0 (by decide)
        have e1 : y 1 = .int .i64 n := hbase 1 (by decide)
        have e2 : y 2 = undef := hbase 2 (by decide)
        have e3 : y 3 = undef := hbase 3 (by decide)
        have e41 : y 41 = undef := hbase 41 (by decide)
        have e4 : y 4 = .slice none 0 0 := hbase 4 (by decide)
        have e5 : y 5 = u5 := hbase 5 (by decide)
        have e6 : y 6 = .int .i64 i := hbase 6 (by decide)
        have hq0 : w1.cell? ⟨g, 0, none⟩ = some (.string ⟨#[]⟩) := by simp [World.cell?, hg1]
        have hq1 : w1.cell? ⟨g, 1, none⟩ = some (.string ⟨#[]⟩) := by simp [World.cell?, hg1]
        have hf0 : ∀ j, w1.frozen? ⟨g, j, none⟩ = false := fun j => by simp [World.frozen?, hg1]
        have hput : Aside0 (Below wr.heap.size wr ((w1.setCell ⟨g, 0, none⟩ (.string ks)).setCell ⟨g, 1, none⟩ (.string vs))) := ⟨(hb.setCell hg0 _).setCell hg0 _⟩
        have HG := Aside0.mk hg1
        simp only [List.drop_succ_cons, List.drop_zero, List.size_toArray, List.length_cons, List.length_nil, Nat.reduceAdd, List.range, List.range.loop, List.map_cons, List.map_nil, e7, e36, e0, e1, e2, e3, e4, e5, e6, e41]
        clear hF hbase e7 e36 e0 e1 e2 e3 e41 e4 e5 e6 hg1 hb
        have HO2 := Aside0.mk (Kd.R_below hO.out hput.out)
        have HB2 := Aside0.mk (hW.out.trans (hput.out.mono hW.out.size))
        have hlen : ((l.take i).map rowOf).length = i := by rw [List.length_map, List.length_take]; omega
        have HLEN := Aside0.mk hlen
        clear hlen
        go_wp2_with (at_builtin; refine Kd.R_append_rows k67 (w0 := w) w.heap.size rfl (.tmp 37) (.tmp 39) 58 67 (.agg #[(.string ⟨#[]⟩), (.string ⟨#[]⟩)]) 32 rfl Try.underlying58 info67 rfl (by decide) (by omega) _ _ [(⟨ks, vs⟩ : S67)] _ _ _ (fun _ => True) (fun _ => False) rfl rfl (Kd.R_alloc HO2.out _) (one_reads (c := (⟨ks, vs⟩ : S67)) (new_block_at (by simp))) (fun x cs h => by rw [k67_open h]; exact k67_mkM _ _ _ x) (fun _ h => h.elim) (fun _ _ => trivial) (below_alloc HB2.out _) (by have := HB2.out.size; simp at this ⊢; omega) (by have h1 := hK.out; rw [HLEN.out]; omega) ?_; intro v1 w2 ho hbb _ _; have HO3 := Aside0.mk ho; have HB3 := Aside0.mk hbb; clear ho hbb)
        go_roundg (gk - 1)
        case measure => have := hK.out; omega
        case rel => exact ⟨i + 1, by go_num, ⟨by have := hK.out; omega, by have := hK.out; omega⟩, ⟨by rw [List.take_succ_eq_append_getElem hlt, List.map_append, List.map_singleton, show l[i] = l.getD i 0 by simp [List.getD_eq_getElem?_getD, hlt], HRow.out]; exact HO3.out⟩, HB3⟩
    · have hE : Aside0 ((l.take i).map rowOf = changesOf l n) := Aside0.mk (by
        unfold changesOf
        congr 1
        have h := hK.out
        by_cases h1 : i < l.length
        · have h2 : (i : Int) = max n 0 := by omega
          congr 1; omega
        · rw [List.take_of_length_le (by omega), List.take_of_length_le (by omega)])
      have hle : ¬ (i < l.length) ∨ (i < l.length ∧ ¬ (i : Int) < n) := by omega
      rcases hle with h1 | ⟨h1, h2⟩
      · have hb1 : ¬ (i : Int) < (l.length : Int) := by omega
        have hb2 : decide ((i : Int) < (l.length : Int)) = false := decide_eq_false hb1
        clear hlt
        go_wp2
        go_ret
        exact ⟨_, rfl, by rw [← hE.out]; exact hO.out, hW.out⟩
      · have hb1 : (i : Int) < (l.length : Int) := by omega
        have hb2 : decide ((i : Int) < n) = false := decide_eq_false h2
        clear hlt
        go_wp2
        go_ret
        exact ⟨_, rfl, by rw [← hE.out]; exact hO.out, hW.out⟩

end Go.Proofs.Ytmfkgbncnaingaa.Rows
namespace Go.Proofs.Ytmfkgbncnaingaa.QRows
open Go.RowKit Go.Proofs.Ytmfkgbncnaingaa.Rows Go.Proofs.YtmfkgbncnaingaaW.PrintWords Go.Proofs.YtmfkgbncnaingaaW.PrintLast Go.Proofs.YtmfkgbncnaingaaW.PrintMore

def bagnallkeep_Changes.f (l0 : List Int) (a1 : Int) : Option (List S67) := if a1 ≤ 1000 then some (changesOf l0 a1) else none
theorem bagnallkeep_Changes.calls (A0 : Option Addr) (c0 : Nat) (l0 : List Int) (a1 : Int) (r : List S67) (w : World) (hr0 : Kd.C (Kd.int .i64) w A0 l0.length l0) (hc0 : l0.length ≤ c0) (h : bagnallkeep_Changes.f l0 a1 = some r) :
    Calls Try.prog 39 #[.slice A0 l0.length c0, .int .i64 a1] w fun e w' => ∃ v0_ : Value, e = .returned (v0_) ∧ Kd.R k67 67 w' w.heap.size (fun _ => True) v0_ r ∧ Below w.heap.size w w' := by
  unfold bagnallkeep_Changes.f at h
  by_cases hn : a1 ≤ 1000
  · rw [if_pos hn] at h
    obtain rfl := Option.some.inj h
    exact Changes_calls A0 c0 l0 a1 w hr0 hc0 hn
  · rw [if_neg hn] at h; cases h
end Go.Proofs.Ytmfkgbncnaingaa.QRows
