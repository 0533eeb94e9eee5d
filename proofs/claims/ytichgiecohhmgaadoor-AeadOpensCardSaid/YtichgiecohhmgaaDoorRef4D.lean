/- casketref4: bytesOf, HChaCha. -/
import Derived.Test.YtichgiecohhmgaaDoorRef4C
import Derived.Test.YtichgiecohhmgaaDoorHash
namespace Go.Proofs.YtichgiecohhmgaaDoor
open Go.RowKit Go.Lib Base Go.Joins
set_option linter.unusedVariables false
set_option linter.unusedSimpArgs false

section
variable (t : TypeId) (x : UInt32) (b : UInt8)
@[go_sem high] theorem i_rem256 : binOp .rem t (.int .i64 (wd x)) (.int .i64 256) = pure (.int .i64 (bt x.toUInt8)) := by
  have h := wd_lt x
  have e : (wd x).tmod 256 = bt x.toUInt8 := by
    rw [Int.tmod_eq_emod_of_nonneg h.1]; unfold wd bt; simp
  rw [← e]; simp [binOp, Op.intDiv]
theorem i_div (n : Nat) (hn : n < 32) (m : Int) (hm : m = 2 ^ n) : binOp .quo t (.int .i64 (wd x)) (.int .i64 m) = pure (.int .i64 (wd (x >>> UInt32.ofNat n))) := by
  subst hm
  have h := wd_lt x
  have e : (wd x).tdiv (2 ^ n) = wd (x >>> UInt32.ofNat n) := by
    rw [Int.tdiv_eq_ediv_of_nonneg h.1]
    unfold wd
    rw [UInt32.toNat_shiftRight, UInt32.toNat_ofNat_of_lt' (by show n < 4294967296; omega), Nat.mod_eq_of_lt hn, Nat.shiftRight_eq_div_pow]
    simp
  have hp : (2 : Int) ^ n ≠ 0 := by have : (0 : Int) < 2 ^ n := Int.pow_pos (by omega); omega
  rw [← e]
  simp [binOp, Op.intDiv, hp]
  rw [e, wd_i64]
@[go_sem high] theorem i_div8 : binOp .quo t (.int .i64 (wd x)) (.int .i64 256) = pure (.int .i64 (wd (x >>> 8))) := i_div t x 8 (by omega) _ rfl
@[go_sem high] theorem i_div16 : binOp .quo t (.int .i64 (wd x)) (.int .i64 65536) = pure (.int .i64 (wd (x >>> 16))) := i_div t x 16 (by omega) _ rfl
@[go_sem high] theorem i_div24 : binOp .quo t (.int .i64 (wd x)) (.int .i64 16777216) = pure (.int .i64 (wd (x >>> 24))) := i_div t x 24 (by omega) _ rfl
@[go_sem high] theorem u8_bt : IntKind.u8.wrap (bt b) = bt b := wrap8_nat _ b.toNat_lt
end

set_option maxRecDepth 100000 in
set_option maxHeartbeats 1000000 in
theorem bytesOf_any (ws : List UInt32) (n : Nat) (hn : ws.length = n) (hp : 0 < n) (hm : n ≤ 1000) (v0 : Value) (base : Nat) (w : World) (h4 : w.ownsRow base 3 1 v0 n (icells ws)) (hb : base ≤ w.heap.size) :
    Calls Tryd.prog 68 #[v0] w fun e w' => e = .returned (.string ⟨(ws.flatMap bytes4).toArray⟩) ∧ Fr [] w w' := by
  obtain ⟨iI, hiI, hz0, hz1, hz2⟩ := info_parts (P := Tryd.prog) (show (Tryd.prog.info? 5).map (fun i => (i.zero, i.size, i.bytes)) = some (some (.int .u8 0), 1, 1) by kernel_rfl)
  go_enter Tryd.func68, Tryd.ntmps68
  obtain ⟨g4, c4, rfl⟩ := ownsRow_form h4 hp
  go_wp2_with fail
  go_loopw [3, 4] (fun v0 v9 wr => ∃ i : Nat, i ≤ n ∧ v9 = .int .i64 i ∧ wr.ownsRow w.heap.size 5 1 v0 (4 * i) (byteCells ((ws.take i).flatMap bytes4)) ∧ Fr [] w wr) (fun _ v _ => n - (intOf v).toNat)
  case atStart => exact ⟨0, by omega, by simp, World.ownsRow_nil _ _ _ _, Fr.refl _ _⟩
  case round =>
    obtain ⟨i, hi, rfl, h0, hf⟩ := hrel
    by_cases hl : i < n
    · have hq := own_fr h4 hf (by simp)
      have ci := hq.cellAt i (by omega)
      rw [icells_get _ _ (by omega)] at ci
      generalize hx : ws.getD i 0 = x at ci
      have A2 := At.alloc_new wr 5 #[Value.int .u8 (bt x.toUInt8), Value.int .u8 (bt (x >>> 8).toUInt8), Value.int .u8 (bt (x >>> 16).toUInt8), Value.int .u8 (bt (x >>> 24).toUInt8)]
      have A2' : At _ wr.heap.size 5 (byteCells (bytes4 x) ++ []) := A2
      have hsz := hf.size
      go_wp2_with (first
        | (at_builtin; refine wpList_append_own _ rfl _ _ _ rfl w.heap.size 5 iI (.int .u8 0) 1 1 Tryd.underlying35 hiI hz0 hz1 hz2 rfl (by decide) _ (4 * i) _ rfl (World.ownsRow.alloc h0 _) ⟨wr.heap.size, 0, none⟩ 4 4 (byteCells (bytes4 x)) rfl rfl (by intro j u hj; have := A2'.cell j; rw [List.append_nil, hj] at this; rw [addr_add', Nat.zero_add]; exact this) (byteCells_one _) (by simp [maxLen]; omega) (by omega) (by simp; omega) ?_; intro v2 w2 o2 gr2 _)
        | fail)
      refine ⟨⟨i + 1, by omega, by simp, ?_, ?_⟩, by simp only [intOf]; omega⟩
      · have e : ws.take (i + 1) = ws.take i ++ [x] := by
          rw [List.take_add_one, List.getElem?_eq_getElem (by omega)]
          simp [List.getD, hn, hl] at hx
          simp [hx]
        rw [e, List.flatMap_append, show 4 * (i + 1) = 4 * i + 4 by omega]
        simpa [byteCells] using o2
      · refine hf.new (S := u3.ownBlock.toList) ((Fr.alloc _ _ _).trans (Fr.ofGrown gr2 (by intro k hk; rw [show u3.ownBlock = some k from hk]; simp))) (fun x hx => (h0.lt x (by simpa using hx)).1)
    · obtain rfl : i = n := by omega
      rw [List.take_of_length_le (by omega)] at h0
      have hcv := run_strOwn Tryd.underlying35 Tryd.underlying5 Tryd.underlying9 h0
      go_wp2_with fail
      go_ret
      exact ⟨rfl, hf⟩

set_option maxRecDepth 100000 in
set_option maxHeartbeats 1000000 in
theorem refhash_ok (k n : ByteArray) (hk : k.size = 32) (hn : n.size = 16) (w : World) (ht : Places w) :
    Calls Tryd.prog 45 #[.string k, .string n] w fun e w' => e = .returned (.tuple #[.string ⟨((hch k.data.toList n.data.toList).flatMap bytes4).toArray⟩, .int .i64 0]) ∧ Fr [] w w' := by
  obtain ⟨iI, hiI, hz0, hz1, hz2⟩ := info_parts (P := Tryd.prog) (show (Tryd.prog.info? 3).map (fun i => (i.zero, i.size, i.bytes)) = some (some (.int .i64 0), 1, 8) by kernel_rfl)
  have hwk := words_len 8 k.data.toList (by simpa using hk)
  have hwn := words_len 4 n.data.toList (by simpa using hn)
  have hsl : (heads ++ words k.data.toList ++ words n.data.toList).length = 16 := by
    simp [heads]; omega
  obtain ⟨s0, hs0⟩ : ∃ s, s = heads ++ words k.data.toList ++ words n.data.toList := ⟨_, rfl⟩
  rw [← hs0] at hsl
  obtain ⟨s1, hs1⟩ : ∃ s, s = doubles s0 10 := ⟨_, rfl⟩
  have hl1 : s1.length = 16 := by rw [hs1, doubles_len, hsl]
  have heq : hch k.data.toList n.data.toList = s1.take 4 ++ s1.drop 12 := by
    rw [hs1, hs0]; simp [hch]
  rw [heq]
  have hst := fun v4 base w h hb => start_any k hk (words n.data.toList) hwn v4 base w h hb
  rw [← hs0] at hst
  have hro := fun v0 base w h hb ht => rounds_any s0 hsl v0 base w h hb ht
  rw [← hs1] at hro
  clear heq hs1 hs0
  have hc1 : (s1.take 4).length = 4 := by simp [hl1]
  have hc2 : (s1.drop 12).length = 4 := by simp [hl1]
  have e04 : ((icells s1).drop 0).take 4 = icells (s1.take 4) := by simp [icells, List.map_take]
  have e12 : ((icells s1).drop 12).take 4 = icells (s1.drop 12) := by
    rw [List.take_of_length_le (by simp [icells, hl1])]
    simp [icells, List.map_drop]
  go_enter Tryd.func45, Tryd.ntmps45
  go_wp2_with (first
    | (go_at_call 46; refine (wrong_ok k n 0 16 hk hn (by omega) (by omega) _).mono ?_; rintro e w' ⟨rfl, q1, rfl⟩)
    | (go_at_call 67; refine (wordsOf_any n 4 (by omega) (by omega) _).mono ?_; rintro e w1 ⟨v1, rfl, o1, f1⟩)
    | (go_at_call 66; refine (hst _ _ _ o1 (by have := f1.size; simpa using this)).mono ?_; rintro e w2 ⟨v2, rfl, o2, f2⟩)
    | (go_at_call 65; refine (hro _ _ _ o2 f2.size (ht.keep (((Fr.drewN [] w q1).trans f1).trans f2) (by simp))).mono ?_; rintro e w3 ⟨v3, rfl, o3, f3⟩; obtain ⟨g, cap, rfl⟩ := ownsRow_form o3 (by omega); have F3 : Fr [] w w3 := (((Fr.drewN [] w q1).trans f1).trans f2).trans f3; have cp := own_cap o3; have cp4 : (4 : Int) ≤ cap := (by omega); have cp16 : (16 : Int) ≤ cap := (by omega))
    | (at_builtin; refine wpList_append_own _ rfl _ _ _ rfl w.heap.size 3 iI (.int .i64 0) 1 8 Tryd.underlying107 hiI hz0 hz1 hz2 rfl (by decide) _ 0 _ rfl (World.ownsRow_nil _ _ _ _) ⟨g, 0, none⟩ 4 cap (icells (s1.take 4)) rfl (by rw [icells_len, hc1]) (by have := own_piece o3 0 4 (by omega); rwa [e04] at this) (icells_one _) (by simp [maxLen]) (by omega) (by have := F3.size; simpa using this) ?_; intro v4 w4 o4 gr4 _; have F4 : Fr [] w3 w4 := (Fr.ofGrown (S := []) gr4 (by intro q hq; have hq1 : none = some q := hq; cases hq1)))
    | (at_builtin; refine wpList_append_own _ rfl _ _ _ rfl w.heap.size 3 iI (.int .i64 0) 1 8 Tryd.underlying107 hiI hz0 hz1 hz2 rfl (by decide) _ 4 _ rfl o4 ⟨g, 12, none⟩ 4 (cap - 12) (icells (s1.drop 12)) rfl (by rw [icells_len, hc2]) (by have := own_piece (own_fr o3 F4 (by simp)) 12 4 (by omega); rwa [e12] at this) (icells_one _) (by simp [maxLen]) (by omega) (by have := (F3.trans F4).size; simpa using this) ?_; intro v5 w5 o5 gr5 _; have F5 : Fr [] w w5 := (F3.trans F4).new (S := v4.ownBlock.toList) (Fr.ofGrown gr5 (by intro q hq; rw [show v4.ownBlock = some q from hq]; simp)) (fun x hx => (o4.lt x (by simpa using hx)).1))
    | (go_at_call 68; refine (bytesOf_any (s1.take 4 ++ s1.drop 12) 8 (by rw [List.length_append, hc1, hc2]) (by omega) (by omega) _ _ _ (by simpa [icells] using o5) F5.size).mono ?_; rintro e w6 ⟨rfl, f6⟩)
    | fail)
  go_ret2
  exact ⟨by rw [List.flatMap_append]; rfl, F5.trans f6⟩

theorem refhash_key (k n : ByteArray) (hk : k.size ≠ 32) (w : World) :
    Calls Tryd.prog 45 #[.string k, .string n] w fun e w' => e = .returned (.tuple #[.string ⟨#[]⟩, .int .i64 40]) ∧ Fr [] w w' := by
  go_enter Tryd.func45, Tryd.ntmps45
  go_wp2_with (first
    | (go_at_call 46; refine (wrong_key k n 0 16 hk _).mono ?_; rintro e w' ⟨rfl, q1, rfl⟩)
    | fail)
  go_ret2
  exact ⟨rfl, Fr.drewN _ _ _⟩
theorem refhash_nonce (k n : ByteArray) (hk : k.size = 32) (hn : n.size ≠ 16) (w : World) :
    Calls Tryd.prog 45 #[.string k, .string n] w fun e w' => e = .returned (.tuple #[.string ⟨#[]⟩, .int .i64 41]) ∧ Fr [] w w' := by
  go_enter Tryd.func45, Tryd.ntmps45
  go_wp2_with (first
    | (go_at_call 46; refine (wrong_nonce k n 0 16 hk hn _).mono ?_; rintro e w' ⟨rfl, q1, rfl⟩)
    | fail)
  go_ret2
  exact ⟨rfl, Fr.drewN _ _ _⟩
theorem hash_key (k n : ByteArray) (hk : k.size ≠ 32) (w : World) :
    Calls Tryd.prog 22 #[.string k, .string n] w fun e w' => e = .returned (.tuple #[.string ⟨#[]⟩, .int .i64 40]) ∧ Fr [] w w' := by
  go_enter Tryd.func22, Tryd.ntmps22
  go_wp2_with (first
    | (go_at_call 31; refine (sized_key k n 16 hk _).mono ?_; rintro e w' ⟨rfl, q1, rfl⟩)
    | fail)
  go_ret2
  exact ⟨rfl, Fr.drewN _ _ _⟩
theorem hash_nonce (k n : ByteArray) (hk : k.size = 32) (hn : n.size ≠ 16) (w : World) :
    Calls Tryd.prog 22 #[.string k, .string n] w fun e w' => e = .returned (.tuple #[.string ⟨#[]⟩, .int .i64 41]) ∧ Fr [] w w' := by
  go_enter Tryd.func22, Tryd.ntmps22
  go_wp2_with (first
    | (go_at_call 31; refine (sized_nonce k n 16 hk hn _).mono ?_; rintro e w' ⟨rfl, q1, rfl⟩)
    | fail)
  go_ret2
  exact ⟨rfl, Fr.drewN _ _ _⟩
end Go.Proofs.YtichgiecohhmgaaDoor
