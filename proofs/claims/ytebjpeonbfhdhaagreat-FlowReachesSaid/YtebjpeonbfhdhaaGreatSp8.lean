/- The document's sets of bytes: flags; how its reader meets the program's. -/
import Derived.Test.YtebjpeonbfhdhaaGreatSp7
namespace Go.Proofs.YtebjpeonbfhdhaaGreat
open Go Go.Sx
/-- 256 flags, as cells. -/
def fl (f : Nat → Bool) : List Value := (List.range 256).map fun b => Value.bool (f b)
theorem fl_len (f : Nat → Bool) : (fl f).length = 256 := by simp [fl]
theorem fl_at (f : Nat → Bool) {b : Nat} (h : b < 256) (sp : List Value) : (fl f ++ sp)[b]? = some (.bool (f b)) := by
  rw [List.getElem?_append_left (by rw [fl_len]; exact h)]; simp [fl, h]
theorem fl_congr {f g : Nat → Bool} (h : ∀ b < 256, f b = g b) : fl f = fl g := by
  unfold fl
  exact List.map_congr_left fun b hb => by rw [h b (List.mem_range.1 hb)]
theorem fl_set (f : Nat → Bool) {b : Nat} (h : b < 256) (x : Bool) (sp : List Value) : (fl f ++ sp).set b (.bool x) = fl (fun c => if c = b then x else f c) ++ sp := by
  rw [List.set_append_left _ _ (by rw [fl_len]; exact h)]
  congr 1
  unfold fl
  refine List.ext_getElem? fun i => ?_
  rw [List.getElem?_set]
  by_cases e : b = i
  · subst e; simp [h]
  · simp only [if_neg e, List.getElem?_map]
    cases hi : (List.range 256)[i]? with
    | none => rfl
    | some v =>
      have : v = i := by
        obtain ⟨_, h3⟩ := List.getElem?_eq_some_iff.1 hi
        simpa using h3.symm
      subst this
      simp [Ne.symm e]
def flS (s : SetD) : List Value := fl fun b => s.has (b : Int)
theorem flS_set (s : SetD) {b : Nat} (h : b < 256) (sp : List Value) : (flS s ++ sp).set b (.bool true) = flS (s.with_ b) ++ sp := by
  unfold flS
  rw [fl_set _ h]
  congr 1
  refine fl_congr fun c hc => ?_
  rw [SetD.has_with _ _ _ (by omega) (by omega) (by omega) (by omega)]
  by_cases e : c = b
  · subst e; simp
  · have : ¬ (b : Int) = c := by omega
    simp [e, this]
/-- Flags that are turned one by one. -/
def flN (s : SetD) (k : Nat) : List Value := fl fun b => if b < k then !s.has (b : Int) else s.has (b : Int)
theorem flN_0 (s : SetD) : flN s 0 = flS s := rfl
theorem flN_all (s : SetD) : flN s 256 = flS s.not := fl_congr fun b hb => by rw [if_pos hb, SetD.has_not _ _ (by omega)]
theorem flN_at (s : SetD) {k : Nat} (h : k < 256) (sp : List Value) : (flN s k ++ sp)[k]? = some (.bool (s.has k)) := by
  unfold flN; rw [fl_at _ h, if_neg (by omega)]
theorem flN_set (s : SetD) {k : Nat} (h : k < 256) (sp : List Value) : (flN s k ++ sp).set k (.bool (!s.has k)) = flN s (k + 1) ++ sp := by
  unfold flN
  rw [fl_set _ h]
  congr 2
  funext c
  by_cases e : c = k
  · subst e; simp
  · by_cases h2 : c < k
    · rw [if_neg e, if_pos h2, if_pos (by omega)]
    · rw [if_neg e, if_neg h2, if_neg (by omega)]
def flK (s : SetD) (k : Nat) : List Value := (List.range k).map fun (b : Nat) => Value.bool (s.has (b : Int))
theorem flK_succ (s : SetD) (k : Nat) : flK s k ++ [.bool (s.has (k : Int))] = flK s (k + 1) := by
  unfold flK; rw [List.range_succ, List.map_append]; rfl
theorem flK_all (s : SetD) : flK s 256 = flS s := rfl
/-- A word's upper bits, one more. -/
theorem shr_step (w : W64) {k : Nat} (hk : k < 64) : (if w.getLsbD k = true then 2#64 * (w >>> (k + 1)) + 1#64 else 2#64 * (w >>> (k + 1))) = w >>> k := by
  apply BitVec.eq_of_toNat_eq
  have h1 : (w >>> k).toNat = w.toNat / 2 ^ k := by rw [BitVec.toNat_ushiftRight, Nat.shiftRight_eq_div_pow]
  have h2 : (w >>> (k + 1)).toNat = w.toNat / 2 ^ k / 2 := by rw [BitVec.toNat_ushiftRight, Nat.shiftRight_eq_div_pow, Nat.pow_succ, Nat.div_div_eq_div_mul]
  have hb : w.getLsbD k = decide (w.toNat / 2 ^ k % 2 = 1) := by
    rw [← BitVec.testBit_toNat, Nat.testBit_eq_decide_div_mod_eq]
  have hlt : w.toNat / 2 ^ k < 18446744073709551616 := Nat.lt_of_le_of_lt (Nat.div_le_self _ _) w.isLt
  rw [hb, h1]
  generalize w.toNat / 2 ^ k = z at *
  by_cases e : z % 2 = 1
  · rw [if_pos (by simpa using e), BitVec.toNat_add, BitVec.toNat_mul, h2]
    simp; omega
  · rw [if_neg (by simpa using e), BitVec.toNat_mul, h2]
    simp; omega
theorem shr_all (w : W64) : w >>> 64 = 0#64 := by
  apply BitVec.eq_of_toNat_eq
  rw [BitVec.toNat_ushiftRight, Nat.shiftRight_eq_div_pow]
  have := w.isLt
  simp; omega
theorem shr_half (w : W64) (k : Nat) : (w >>> k) / 2#64 = w >>> (k + 1) := by
  apply BitVec.eq_of_toNat_eq
  rw [BitVec.toNat_udiv, BitVec.toNat_ushiftRight, BitVec.toNat_ushiftRight, Nat.shiftRight_eq_div_pow, Nat.shiftRight_eq_div_pow, Nat.pow_succ, Nat.div_div_eq_div_mul]
  rfl
theorem odd_bit (w : W64) (k : Nat) : decide ((w >>> k) % 2#64 = 1#64) = w.getLsbD k := by
  rw [← BitVec.testBit_toNat, Nat.testBit_eq_decide_div_mod_eq, decide_eq_decide, ← BitVec.toNat_inj, BitVec.toNat_umod, BitVec.toNat_ushiftRight, Nat.shiftRight_eq_div_pow]
  simp
/-- What the document's sign tells: the byte, how many bytes, whether there is one. -/
def oneR (u : ByteArray) : Int × Int × Bool :=
  if u.size = 0 ∨ bt u 0 = 93 ∨ bt u 0 = 45 then (0, 0, false)
  else if bt u 0 ≠ 37 then (bt u 0, 1, true)
  else if (u.size : Int) = 1 then (0, 1, false) else (bt u 1, 2, true)
theorem bt_sub (s : ByteArray) (a i : Int) (h0 : 0 ≤ a) (hi : 0 ≤ i) (h : a + i < s.size) : bt (bSub s a s.size) i = bt s (a + i) := by
  have hs : s.data.size = s.size := rfl
  unfold bt bSub
  rw [ByteArray.data_extract, Array.getElem?_extract_of_lt (by simp; omega), Array.getElem?_eq_getElem (by omega : (a + i).toNat < s.data.size)]
  have e : (a + i).toNat = a.toNat + i.toNat := by omega
  simp only [e]
theorem one_sign (s : ByteArray) (a bad : Int) (h0 : 0 ≤ a) (h : a ≤ s.size) : rdSign s a bad = if (oneR (bSub s a s.size)).2.2 = true then ((oneR (bSub s a s.size)).1, a + (oneR (bSub s a s.size)).2.1, bad) else (0, rdStop s (a + (oneR (bSub s a s.size)).2.1)) := by
  have hsz := bSub_size s a h0 h
  by_cases hz : a = s.size
  · have e : oneR (bSub s a s.size) = (0, 0, false) := by unfold oneR; rw [if_pos (.inl (by omega))]
    have d : rdSign s a bad = (0, rdStop s a) := by unfold rdSign; rw [if_neg (by simp [rdIs]; omega), if_pos (.inl (by omega))]
    rw [d, e]; simp
  · have b0 := bt_sub s a 0 h0 (by omega) (by omega)
    rw [Int.add_zero] at b0
    by_cases h37 : bt s a = 37
    · have hp : rdIs s a 37 = true := by simp [rdIs, h37]; omega
      by_cases h1 : ((bSub s a s.size).size : Int) = 1
      · have e : oneR (bSub s a s.size) = (0, 1, false) := by unfold oneR; rw [if_neg (by rw [b0]; omega), if_neg (by rw [b0]; simp [h37]), if_pos h1]
        have d : rdSign s a bad = (0, rdStop s (a + 1)) := by unfold rdSign; rw [if_pos hp, if_pos (by omega)]
        rw [d, e]; simp
      · have b1 := bt_sub s a 1 h0 (by omega) (by omega)
        have e : oneR (bSub s a s.size) = (bt s (a + 1), 2, true) := by unfold oneR; rw [if_neg (by rw [b0]; omega), if_neg (by rw [b0]; simp [h37]), if_neg h1, b1]
        have d : rdSign s a bad = (bt s (a + 1), a + 1 + 1, bad) := by unfold rdSign; rw [if_pos hp, if_neg (by omega)]
        rw [d, e]; simp; omega
    · have hp : ¬ rdIs s a 37 = true := by simp [rdIs, h37]
      by_cases h9 : bt s a = 93 ∨ bt s a = 45
      · have e : oneR (bSub s a s.size) = (0, 0, false) := by unfold oneR; rw [if_pos (by rw [b0]; omega)]
        have d : rdSign s a bad = (0, rdStop s a) := by unfold rdSign; rw [if_neg hp, if_pos (by rcases h9 with h9 | h9 <;> simp [rdIs, h9] <;> omega)]
        rw [d, e]; simp
      · have e : oneR (bSub s a s.size) = (bt s a, 1, true) := by unfold oneR; rw [if_neg (by rw [b0]; omega), if_pos (by rw [b0]; exact h37), b0]
        have d : rdSign s a bad = (bt s a, a + 1, bad) := by unfold rdSign; rw [if_neg hp, if_neg (by simp [rdIs]; omega)]
        rw [d, e]; simp
theorem oneR_b (u : ByteArray) : 0 ≤ (oneR u).1 ∧ (oneR u).1 ≤ 255 ∧ 0 ≤ (oneR u).2.1 ∧ (oneR u).2.1 ≤ u.size := by
  have h0 := bt_range u 0
  have h1 := bt_range u 1
  unfold oneR
  repeat' split
  all_goals simp
  all_goals omega
/-! ### Sets made of flags -/
def mkW (s : SetD) : Nat → SetD
  | 0 => SetD.none
  | w + 1 => (mkW s w).put w (s.get w)
theorem mkW_all (s : SetD) : mkW s 4 = s := rfl
theorem put_get (s : SetD) {w : Nat} (h : w < 4) (x : W64) : (s.put w x).get w = x := by rw [SetD.get_put _ _ _ h h, if_pos rfl]
theorem put_put (s : SetD) {w : Nat} (h : w < 4) (x y : W64) : (s.put w x).put w y = s.put w y := by
  match w, h with | 0, _ => rfl | 1, _ => rfl | 2, _ => rfl | 3, _ => rfl
theorem mkW_zero (s : SetD) {w : Nat} (h : w < 4) : (mkW s w).put w 0#64 = mkW s w := by
  match w, h with | 0, _ => rfl | 1, _ => rfl | 2, _ => rfl | 3, _ => rfl
def mkX (s : SetD) (w k : Nat) : SetD := (mkW s w).put w (s.get w >>> (64 - k))
theorem mkX_0 (s : SetD) {w : Nat} (h : w < 4) : mkX s w 0 = mkW s w := by rw [mkX, Nat.sub_zero, shr_all, mkW_zero s h]
theorem mkX_all (s : SetD) (w : Nat) : mkX s w 64 = mkW s (w + 1) := by rw [mkX, mkW]; simp
theorem has_split (s : SetD) {w k : Nat} (h : k < 64) : s.has (64 * (w : Int) + (63 - (k : Int))) = (s.get w).getLsbD (63 - k) := by
  unfold SetD.has
  rw [show ((64 * (w : Int) + (63 - (k : Int))) / 64).toNat = w by omega, show ((64 * (w : Int) + (63 - (k : Int))) % 64).toNat = 63 - k by omega]
theorem mkX_step (s : SetD) {w k : Nat} (hw : w < 4) (h : k < 64) (hb : s.has (64 * (w : Int) + (63 - (k : Int))) = true) :
    ((mkX s w k).put w (2#64 * (mkX s w k).get w)).put w (((mkX s w k).put w (2#64 * (mkX s w k).get w)).get w + 1#64) = mkX s w (k + 1) := by
  rw [has_split s h] at hb
  have := shr_step (s.get w) (k := 63 - k) (by omega)
  rw [if_pos hb, show 63 - k + 1 = 64 - k by omega] at this
  unfold mkX
  rw [put_get _ hw, put_put _ hw, put_put _ hw, put_get _ hw, this, show 64 - (k + 1) = 63 - k by omega]
theorem mkX_keep (s : SetD) {w k : Nat} (hw : w < 4) (h : k < 64) (hb : s.has (64 * (w : Int) + (63 - (k : Int))) = false) : (mkX s w k).put w (2#64 * (mkX s w k).get w) = mkX s w (k + 1) := by
  rw [has_split s h] at hb
  have := shr_step (s.get w) (k := 63 - k) (by omega)
  rw [if_neg (by simp [hb]), show 63 - k + 1 = 64 - k by omega] at this
  unfold mkX
  rw [put_get _ hw, put_put _ hw, this, show 64 - (k + 1) = 63 - k by omega]
/-! ### The document's reader meets the program's -/
theorem or_none (s : SetD) : SetD.none.or s = s := by
  cases s; simp [SetD.or, SetD.none]
def orS (s : SetD) (a : Int) : Nat → SetD
  | 0 => s
  | k + 1 => (orS s a k).with_ (a + k)
theorem has_orS (s : SetD) (a c : Int) (n : Nat) (ha : 0 ≤ a) (hn : a + n ≤ 256) (hc : 0 ≤ c) (hc2 : c ≤ 255) : (orS s a n).has c = (s.has c || decide (a ≤ c ∧ c < a + n)) := by
  induction n with
  | zero => rw [orS]; symm; simp; intro h1 h2; omega
  | succ n ih =>
    rw [orS, SetD.has_with _ _ _ (by omega) (by omega) hc hc2, ih (by omega), Bool.or_assoc]
    congr 1
    rw [Bool.eq_iff_iff]; simp; omega
theorem orS_all (s : SetD) (a b : Int) (ha : 0 ≤ a) (hb : b ≤ 255) : orS s a (b + 1 - a).toNat = s.or (spanS a b) := by
  refine SetD.ext_has fun c hc hc2 => ?_
  rw [SetD.has_or, has_span a b c ha hb hc hc2]
  by_cases h : b < a
  · rw [show (b + 1 - a).toNat = 0 by omega, orS]
    have : ¬ (a ≤ c ∧ c ≤ b) := by omega
    simp [this]
  · rw [has_orS s a c _ ha (by omega) hc hc2]
    congr 1
    rw [decide_eq_decide]; omega
theorem rdLoop_bad {s : ByteArray} {n : Nat} {x : RdSt} (h : x.bad ≠ 0) : rdLoop s n x = x := by
  cases n with
  | zero => rfl
  | succ n => rw [rdLoop, if_neg (by simp [RdSt.on, h])]
theorem rdLoop_off {s : ByteArray} {n : Nat} {x : RdSt} (h : x.on s = false) : rdLoop s n x = x := by
  cases n with
  | zero => rfl
  | succ n => rw [rdLoop, if_neg (by simp [h])]
def rdPre (s : ByteArray) (X : RdSt) (n : Nat) (first : Bool) (out : SetD) (a : Int) : Prop :=
  (first = true ∧ out = SetD.none ∧ X = rdFrom s a) ∨ (first = false ∧ X = rdLoop s n ⟨out, a, 0⟩ ∧ s.size - a < n)
theorem rdPre_step {s : ByteArray} {X : RdSt} {n : Nat} {first : Bool} {out : SetD} {a : Int} (h : rdPre s X n first out a) (h0 : 0 ≤ a) (h1 : a ≤ s.size) (hc : first = true ∨ rdIs s a 93 = false) :
    ∃ n' : Nat, X = rdLoop s n' ⟨out.or (rdPart s a 0).1, (rdPart s a 0).2.1, (rdPart s a 0).2.2⟩ ∧ ((rdPart s a 0).2.2 = 0 → s.size - (rdPart s a 0).2.1 < n') := by
  have hb := rdPart_b s a 0 h0 h1
  rcases h with ⟨hf, ho, hX⟩ | ⟨hf, hX, hn⟩
  · subst ho
    refine ⟨s.size + 1, ?_, fun _ => by omega⟩
    rw [or_none]; exact hX
  · have hon : RdSt.on s ⟨out, a, 0⟩ = true := by
      simp [RdSt.on]
      rcases hc with hc | hc
      · rw [hf] at hc; cases hc
      · exact hc
    obtain ⟨m, rfl⟩ : ∃ m, n = m + 1 := ⟨n - 1, by omega⟩
    refine ⟨m, ?_, fun hz => by have := hb.2.2.1 hz; omega⟩
    rw [hX, rdLoop, if_pos hon]; rfl
end Go.Proofs.YtebjpeonbfhdhaaGreat
