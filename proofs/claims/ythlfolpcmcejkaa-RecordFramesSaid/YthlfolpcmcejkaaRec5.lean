/- The bytes of records: both sides. No condition. -/
import Derived.Test.YthlfolpcmcejkaaRec4
set_option linter.unusedSimpArgs false
set_option linter.unusedVariables false
set_option maxRecDepth 100000
namespace Silo
open Go Go.Eng
theorem high_step (s j : Nat) (n : Int) (hj : j < s) : (List.replicate (j + 1) (0 : UInt8) ++ be (s - (j + 1)) n).set j (u8I (n / 256 ^ (s - (j + 1)))) = List.replicate j 0 ++ be (s - j) n := by
  have h1 : s - j = (s - (j + 1)) + 1 := by omega
  rw [h1, List.set_append_left _ _ (by simp)]
  have h2 : (List.replicate (j + 1) (0 : UInt8)).set j (u8I (n / 256 ^ (s - (j + 1)))) = List.replicate j 0 ++ [u8I (n / 256 ^ (s - (j + 1)))] := by
    rw [List.replicate_succ', List.set_append_right _ _ (by simp)]; simp
  rw [h2]; simp [be]
theorem shr_step (n : Int) (m : Nat) : n / 256 ^ m / 2 ^ (8 : Int).toNat = n / 256 ^ (m + 1) := by
  have : (2 : Int) ^ (8 : Int).toNat = 256 := by decide
  rw [this, Int.pow_succ, Int.ediv_ediv_of_nonneg (Int.le_of_lt (Int.pow_pos (by decide)))]

def bI (r : Rec) : List UInt8 := if hasB r.kind 105 then be 4 r.id else []
def bN (r : Rec) : List UInt8 := if hasB r.kind 110 then be 1 r.name.length ++ r.name else []
def bL (r : Rec) : List UInt8 := if hasB r.kind 108 then be 4 r.list.length ++ r.list.flatMap (be 4) else []
def be44 (p : Int × Int) : List UInt8 := be 4 p.1 ++ be 4 p.2
def bS (r : Rec) : List UInt8 := if hasB r.kind 115 then be 1 r.slots.length ++ r.slots.flatMap be44 else []
def A1 (r : Rec) : List UInt8 := be 1 r.kind ++ bI r
def A2 (r : Rec) : List UInt8 := A1 r ++ bN r
def A3 (r : Rec) : List UInt8 := A2 r ++ r.digest
def A4 (r : Rec) : List UInt8 := A3 r ++ bL r
/-- The bytes of a record. -/
def bytesOf (r : Rec) : List UInt8 := A4 r ++ bS r
theorem A1_len (r : Rec) : (A1 r).length ≤ 5 := by
  simp only [A1, bI, List.length_append, be_length]; split
  · simp [be_length]
  · simp
theorem A2_len (r : Rec) (h : r.name.length ≤ 140737488355328) : (A2 r).length ≤ 140737488355334 := by
  have := A1_len r
  simp only [A2, bN, List.length_append]; split
  · simp only [List.length_append, be_length]; omega
  · simp; omega
theorem A3_len (r : Rec) (h : r.name.length ≤ 140737488355328) (hd : r.digest.length ≤ 140737488355328) : (A3 r).length ≤ 281474976710662 := by
  have := A2_len r h
  simp only [A3, List.length_append]; omega
theorem flat4_len (l : List Int) : (l.flatMap (be 4)).length = 4 * l.length := by
  induction l with
  | nil => rfl
  | cons x r ih => simp only [List.flatMap_cons, List.length_append, be_length, List.length_cons, ih]; omega
theorem flat44_len (l : List (Int × Int)) : (l.flatMap be44).length = 8 * l.length := by
  induction l with
  | nil => rfl
  | cons x r ih => simp only [List.flatMap_cons, List.length_append, be44, be_length, List.length_cons, ih]; omega
theorem A4_len (r : Rec) (h : r.name.length ≤ 140737488355328) (hd : r.digest.length ≤ 140737488355328) (hl : r.list.length ≤ 140737488355328) : (A4 r).length ≤ 844424930131978 := by
  have := A3_len r h hd
  simp only [A4, bL, List.length_append]; split
  · simp only [List.length_append, be_length, flat4_len]; omega
  · simp; omega
end Silo
namespace Go.Proofs.Ythlfolpcmcejkaa
open Go Go.Eng Go.RowKit Silo TryT

theorem high_ok {w : World} (n : Int) (s : Nat) (hs : s ≤ 8) : Calls Try.prog 46 #[I n, I s] w (Ret fun v w' => Below w.heap.size w w' ∧ v = St (be s n)) := by
  obtain ⟨B, hB⟩ : ∃ B, B = w.heap.size := ⟨_, rfl⟩
  have hK : Below B w w := Below.refl _ _
  have hBw : B ≤ w.heap.size := Nat.le_of_eq hB
  rw [← hB]
  refine enter (n := 24) (res := #[.tmp 4]) Try.func46 rfl rfl rfl rfl ?_
  refine cseq <| cg <| za rfl <| cnil <| cseq <| cg <| zm rfl ?_
  refine ve (Eff.make sl38 rfl rfl (by omega) (by omega) (by omega)) ?_
  rintro v8 w8 ⟨_, ho, hk8, _⟩
  rw [← hB] at ho
  replace hK := hK.upB (hk8.mono hBw); replace hBw := Nat.le_trans hBw hk8.size
  rw [bytesV_zero, Int.toNat_natCast] at ho
  refine za rfl <| cnil <| cseq <| cseq <| cg <| zm rfl <| vq (Val.subI rfl rfl side side) <| za rfl <| cnil ?_
  refine cblock ?_
  refine WC.loop (σ := Nat) (fun j => [(0, I (n / 256 ^ (s - j))), (5, v8), (6, I ((j : Int) - 1))]) (fun j w' => Own w' B 5 1 v8 s (bytesV (List.replicate j 0 ++ be (s - j) n)) ∧ Below B w w' ∧ B ≤ w'.heap.size ∧ j ≤ s) (fun j => j) s (by rw [Nat.sub_self, Int.pow_zero, Int.ediv_one]; repeat (first | exact Sub.nil _ | refine Sub.cons rfl ?_ | refine Sub.consM rfl ?_)) ⟨by simpa [be] using ho, hK, hBw, by omega⟩ ?_
  rintro j wl ⟨ho, hK, hBw, hj⟩
  refine cseq <| cseq <| cg <| zm rfl <| vq (Val.geq rfl rfl) <| cnil ?_
  refine WC.cond rfl (fun hc3 => ?_) (fun hc3 => ?_)
  ·try simp only [tstS] at hc3
   obtain ⟨i, rfl⟩ : ∃ i, j = i + 1 := ⟨j - 1, by omega⟩
   have ei : ((i + 1 : Nat) : Int) - 1 = (i : Int) := by omega
   rw [ei]
   have hr := ho.rdBytes (by simp [be_length]; omega)
   refine cskip <| cseq <| cblock <| cseq <| cg <| zm rfl <| zm rfl <| zm rfl <| vq (Val.convToU8I Try.underlying3 Try.underlying5 rfl) ?_
   refine vq (Val.indexAddr sl38 hr rfl rfl rfl (by omega) (by simp [be_length]; omega)) ?_
   refine WR.eff_ (Eff.storeOwn scl5 ho (i := i) (by omega) rfl rfl rfl rfl) ?_
   rintro _ w9 ⟨ho, hg9, _⟩
   have hk9 : Below B wl w9 := below_of_grown hg9 hBw (fun k hk => (ho.lt k hk).1)
   replace hK := hK.upB hk9; replace hBw := Nat.le_trans hBw hk9.size
   rw [bytesV_set, high_step s i n (by omega)] at ho
   refine cnil <| cg <| zm rfl <| vq (Val.shr rfl rfl side (by simp [IntKind.bits] <;> omega)) <| za rfl <| cnil <| cg <| zm rfl <| vq (Val.subI rfl rfl side side) ?_
   refine za rfl <| cnil ?_
   refine ⟨i, ?_, ⟨ho, hK, hBw, by omega⟩, by omega⟩
   have e : s - i = (s - (i + 1)) + 1 := by omega
   rw [e, ← shr_step]
   repeat (first | exact Sub.nil _ | refine Sub.cons rfl ?_ | refine Sub.consM rfl ?_)
  ·try simp only [tstS] at hc3
   refine WC.exit rfl ?_
   refine cseq <| cg <| zm rfl <| vq (Val.ofBytes Try.underlying38 Try.underlying9 Try.underlying5 rfl ho) <| za rfl <| cnil ?_
   refine WC.ret1 rfl rfl ?_
   have : j = 0 := by omega
   subst this
   exact ⟨hK, by simp⟩

theorem number4_ok {w : World} (n : Int) : Calls Try.prog 47 #[I n] w (Ret fun v w' => Below w.heap.size w w' ∧ v = St (be 4 n)) := by
  have hK : Old w w := Old.refl w
  refine enter (n := 5) (res := #[.tmp 2]) Try.func47 rfl rfl rfl rfl ?_
  refine cseq <| cg <| za rfl <| cnil <| cseq <| cg <| zm rfl ?_
  refine ve (Eff.call pf46 rfl (high_ok n 4 (by decide))) ?_
  rintro v4 w1 ⟨hk1, rfl⟩
  replace hK := hK.up hk1
  refine za rfl <| cnil ?_
  refine WC.ret1 rfl rfl ?_
  exact ⟨hK, rfl⟩

theorem bytes_ok {w : World} {cs : List Value} {r : Rec} (h : RdRec w cs r) (hk18 : 1 ≤ r.kind ∧ r.kind ≤ 8) : Calls Try.prog 19 #[.agg cs.toArray] w (Ret fun v w' => Below w.heap.size w w' ∧ v = St (bytesOf r)) := by
  obtain ⟨vl, vs, rfl, hl, hs, hq⟩ := h
  obtain ⟨hq1, hq2, hq3, hq4⟩ := hq
  have o1 := hl.oneC
  have o2 := hs.oneC
  have lsm := hl.small
  have ssm := hs.small
  have l1 := A1_len r
  have l2 := A2_len r hq3
  have l3 := A3_len r hq3 hq4
  have l4 := A4_len r hq3 hq4 lsm
  have hK : Old w w := Old.refl w
  refine enter (n := 91) (res := #[.tmp 2]) Try.func19 rfl rfl rfl rfl ?_
  refine cseq <| cg ?_
  refine ve (Eff.box rfl) ?_
  rintro _ w1 ⟨b1, rfl, hn1⟩
  have hk1 := hn1.below
  replace hl := hl.up hk1; replace hs := hs.up hk1; replace hK := hK.up hk1
  have hb1 := hn1.blk
  refine za rfl <| cnil <| cseq <| cg <| vq (Val.fieldAddr fld31_0 rfl) <| vq (Val.loadB scl3 rfl hb1 rfl) ?_
  refine ve (Eff.call pf42 rfl (fieldsU_ok r.kind (by omega) hk18.2)) ?_
  rintro v9 w2 ⟨hk2, rfl⟩
  replace hl := hl.up hk2; replace hs := hs.up hk2; replace hK := hK.up hk2; replace hb1 := hb1.up hk2
  refine za rfl <| cnil <| cseq <| cg <| vq (Val.fieldAddr fld31_0 rfl) <| vq (Val.loadB scl3 rfl hb1 rfl) ?_
  refine ve (Eff.call pf46 rfl (high_ok r.kind 1 (by decide))) ?_
  rintro v12 w3 ⟨hk3, rfl⟩
  replace hl := hl.up hk3; replace hs := hs.up hk3; replace hK := hK.up hk3; replace hb1 := hb1.up hk3
  refine za rfl <| cnil <| cseq <| cseq <| cg <| zm rfl ?_
  refine ve (Eff.call pf43 rfl (hasI_ok r.kind)) ?_
  rintro v14 w4 ⟨hk4, rfl⟩
  replace hl := hl.up hk4; replace hs := hs.up hk4; replace hK := hK.up hk4; replace hb1 := hb1.up hk4
  refine cnil ?_
  refine WC.mono (N := fun e w' => Sub [(4000000, .tuple #[]), (1, .pointer (some ⟨b1, 0, none⟩)), (3, St (fieldsU r.kind)), (4, St (A1 r))] e ∧ Blk w' b1 [I r.kind, I r.id, St r.name, St r.digest, vl, vs] 31 ∧ RdS intS w'.heap.size w' vl r.list ∧ RdS slotS w'.heap.size w' vs r.slots ∧ Old w w') ?_ ?_
  ·refine WC.cond rfl (fun hc3 => ?_) (fun hc3 => ?_)
   ·try simp only [tstS] at hc3
    refine cg <| zm rfl <| vq (Val.fieldAddr fld31_1 rfl) <| vq (Val.loadB scl3 rfl hb1 rfl) ?_
    refine ve (Eff.call pf47 rfl (number4_ok r.id)) ?_
    rintro v18 w5 ⟨hk5, rfl⟩
    replace hl := hl.up hk5; replace hs := hs.up hk5; replace hK := hK.up hk5; replace hb1 := hb1.up hk5
    refine vq (Val.sadd rfl rfl (by (try simp only [List.length_append, be_length]); omega)) <| za rfl <| cnil ?_
    have e : A1 r = be 1 r.kind ++ be 4 r.id := by simp [A1, bI, hc3]
    rw [e]; exact ⟨subs, hb1, hl, hs, hK⟩
   ·try simp only [tstS] at hc3
    refine cskip ?_
    have e : A1 r = be 1 r.kind := by simp [A1, bI, hc3]
    rw [e]; exact ⟨subs, hb1, hl, hs, hK⟩
  ·skip
   rintro _ wc3 ⟨hsub, hb1, hl, hs, hK⟩
   refine WC.sub hsub ?_
   clear hsub
   refine cseq <| cseq <| cg <| zm rfl ?_
   refine ve (Eff.call pf43 rfl (hasN_ok r.kind)) ?_
   rintro v21 w6 ⟨hk6, rfl⟩
   replace hl := hl.up hk6; replace hs := hs.up hk6; replace hK := hK.up hk6; replace hb1 := hb1.up hk6
   refine cnil ?_
   refine WC.mono (N := fun e w' => Sub [(4000000, .tuple #[]), (1, .pointer (some ⟨b1, 0, none⟩)), (3, St (fieldsU r.kind)), (4, St (A2 r))] e ∧ Blk w' b1 [I r.kind, I r.id, St r.name, St r.digest, vl, vs] 31 ∧ RdS intS w'.heap.size w' vl r.list ∧ RdS slotS w'.heap.size w' vs r.slots ∧ Old w w') ?_ ?_
   ·refine WC.cond rfl (fun hc5 => ?_) (fun hc5 => ?_)
    ·try simp only [tstS] at hc5
     refine WC.regionD (Below w6.heap.size w6) [0, 0, 1, 0, 2, 0, 0, 1, 0, 0] [0, 1, 2, 3, 6, 7, 4, 5, 8, 9] mixed (by kernel_rfl) ?_
     have hk7 : Below w6.heap.size w6 w6.drew := (Below.refl _ _).drew
     have hCw : Below w6.heap.size w6 w6.drew := (Below.refl _ _).drew
     generalize w6.drew = w7 at hk7 hCw ⊢
     have hb10 := hb1
     replace hl := hl.up hk7; replace hs := hs.up hk7; replace hK := hK.up hk7; replace hb1 := hb1.up hk7
     refine zdm rfl rfl <| vd rfl (fun _ => Val.fieldAddr fld31_2 rfl) <| qc rfl rfl rfl hCw (fun W hW => Val.loadB scl9 rfl (hb10.up hW) rfl) rfl <| vd rfl (fun _ => Val.slen Try.underlying9 rfl) <| vd rfl (fun _ => Val.fieldAddr fld31_2 rfl) <| qc rfl rfl rfl hCw (fun W hW => Val.loadB scl9 rfl (hb10.up hW) rfl) rfl ?_
     refine WD.eff rfl rfl rfl (Eff.call pf46 rfl (high_ok r.name.length 1 (by decide))) rfl ?_
     rintro v26 w8 ⟨hk8, rfl⟩
     refine ⟨fun hC => Below.trans hC (hk8.mono hC.size), ?_⟩
     replace hCw := Below.trans hCw (hk8.mono hCw.size)
     replace hl := hl.up hk8; replace hs := hs.up hk8; replace hK := hK.up hk8; replace hb1 := hb1.up hk8
     refine vd rfl (fun _ => Val.sadd rfl rfl (by (try simp only [List.length_append, be_length]); omega)) <| vd rfl (fun _ => Val.sadd rfl rfl (by (try simp only [List.length_append, be_length]); omega)) <| zda rfl rfl ?_
     refine WD.nil ?_
     clear hb10
     clear hCw
     have e : A2 r = A1 r ++ be 1 r.name.length ++ r.name := by simp [A2, bN, hc5]
     rw [e]; exact ⟨subs, hb1, hl, hs, hK⟩
    ·try simp only [tstS] at hc5
     refine cskip ?_
     have e : A2 r = A1 r := by simp [A2, bN, hc5]
     rw [e]; exact ⟨subs, hb1, hl, hs, hK⟩
   ·skip
    rintro _ wc5 ⟨hsub, hb1, hl, hs, hK⟩
    refine WC.sub hsub ?_
    clear hsub
    refine cseq <| cg <| zm rfl <| vq (Val.fieldAddr fld31_3 rfl) <| vq (Val.loadB scl9 rfl hb1 rfl) <| vq (Val.sadd rfl rfl (by (try simp only [List.length_append, be_length]); omega)) <| za rfl <| cnil <| cseq ?_
    refine cseq <| cg <| zm rfl ?_
    refine ve (Eff.call pf43 rfl (hasL_ok r.kind)) ?_
    rintro v36 w9 ⟨hk9, rfl⟩
    replace hl := hl.up hk9; replace hs := hs.up hk9; replace hK := hK.up hk9; replace hb1 := hb1.up hk9
    refine cnil ?_
    refine WC.mono (N := fun e w' => Sub [(4000000, .tuple #[]), (1, .pointer (some ⟨b1, 0, none⟩)), (3, St (fieldsU r.kind)), (4, St (A4 r))] e ∧ Blk w' b1 [I r.kind, I r.id, St r.name, St r.digest, vl, vs] 31 ∧ RdS intS w'.heap.size w' vl r.list ∧ RdS slotS w'.heap.size w' vs r.slots ∧ Old w w') ?_ ?_
    ·refine WC.cond rfl (fun hc8 => ?_) (fun hc8 => ?_)
     ·try simp only [tstS] at hc8
      refine cseq <| cg <| zm rfl <| vq (Val.fieldAddr fld31_4 rfl) <| vq (Val.loadB scl24 rfl hb1 rfl) ?_
      first | refine vq (Val.rdlen sl24 (by assumption) rfl) ?_ | refine vq (Val.sllen Try.underlying24 rfl) ?_
      refine ve (Eff.call pf47 rfl (number4_ok r.list.length)) ?_
      rintro v41 w10 ⟨hk10, rfl⟩
      replace hl := hl.up hk10; replace hs := hs.up hk10; replace hK := hK.up hk10; replace hb1 := hb1.up hk10
      refine vq (Val.sadd rfl rfl (by have : (A2 r ++ r.digest).length ≤ 281474976710662 := l3; simp only [List.length_append, be_length] at this ⊢; omega)) <| za rfl <| cnil <| cseq <| cg <| za rfl <| cnil <| cblock ?_
      refine WC.loop (σ := Nat) (fun k => [(1, .pointer (some ⟨b1, 0, none⟩)), (3, St (fieldsU r.kind)), (4, St (A3 r ++ be 4 r.list.length ++ (r.list.take k).flatMap (be 4))), (5, I k)]) (fun k w' => Blk w' b1 [I r.kind, I r.id, St r.name, St r.digest, vl, vs] 31 ∧ RdS intS w'.heap.size w' vl r.list ∧ RdS slotS w'.heap.size w' vs r.slots ∧ Old w w' ∧ k ≤ r.list.length) (fun k => r.list.length - k) 0 (by rw [List.take_zero, List.flatMap_nil, List.append_nil, A3]; repeat (first | exact Sub.nil _ | refine Sub.cons rfl ?_ | refine Sub.consM rfl ?_)) ⟨hb1, hl, hs, hK, by omega⟩ ?_
      rintro k wl ⟨hb1, hl, hs, hK, hk⟩
      refine cseq <| cseq <| cg <| zm rfl <| vq (Val.fieldAddr fld31_4 rfl) <| vq (Val.loadB scl24 rfl hb1 rfl) ?_
      first | refine vq (Val.rdlen sl24 (by assumption) rfl) ?_ | refine vq (Val.sllen Try.underlying24 rfl) ?_
      refine vq (Val.lss rfl rfl) <| cnil ?_
      refine WC.cond rfl (fun hc11 => ?_) (fun hc11 => ?_)
      ·try simp only [tstS] at hc11
       have ka : k < r.list.length := by omega
       have kl := flat4_len (r.list.take k)
       have kl2 : (r.list.take k).length ≤ r.list.length := by simp; omega
       obtain ⟨cs1, hc54, rfl, ok1⟩ := Rd.el hl ka
       refine cskip <| cseq <| cblock <| cg <| zm rfl <| vq (Val.fieldAddr fld31_4 rfl) <| vq (Val.loadB scl24 rfl hb1 rfl) <| zm rfl <| vq (Val.indexAddr sl24 (by assumption) rfl rfl rfl side side) ?_
       refine vq (Val.loadE1 scl3 rfl hc54) ?_
       refine ve (Eff.call pf47 rfl (number4_ok _)) ?_
       rintro v56 w11 ⟨hk11, rfl⟩
       replace hl := hl.up hk11; replace hs := hs.up hk11; replace hK := hK.up hk11; replace hb1 := hb1.up hk11
       refine vq (Val.sadd rfl rfl (by (try simp only [List.length_append, be_length]); omega)) <| za rfl <| cnil <| cg <| zm rfl <| vq (Val.addI rfl rfl side side) <| za rfl <| cnil ?_
       exact ⟨k + 1, by rw [take_succ_flatMap _ ka, ← List.append_assoc]; repeat (first | exact Sub.nil _ | refine Sub.cons rfl ?_ | refine Sub.consM rfl ?_), ⟨hb1, hl, hs, hK, ka⟩, by omega⟩
      ·try simp only [tstS] at hc11
       refine WC.exit rfl ?_
       have e : A4 r = A3 r ++ be 4 r.list.length ++ (r.list.take k).flatMap (be 4) := by rw [List.take_of_length_le (by omega), List.append_assoc]; simp [A4, bL, hc8]
       rw [e]; exact ⟨subs, hb1, hl, hs, hK⟩
     ·try simp only [tstS] at hc8
      refine cskip ?_
      have e : A4 r = A2 r ++ r.digest := by simp [A4, bL, hc8, A3]
      rw [e]; exact ⟨subs, hb1, hl, hs, hK⟩
    ·skip
     rintro _ wc8 ⟨hsub, hb1, hl, hs, hK⟩
     refine WC.sub hsub ?_
     clear hsub
     refine cseq <| cseq <| cg <| zm rfl ?_
     refine ve (Eff.call pf43 rfl (hasS_ok r.kind)) ?_
     rintro v59 w12 ⟨hk12, rfl⟩
     replace hl := hl.up hk12; replace hs := hs.up hk12; replace hK := hK.up hk12; replace hb1 := hb1.up hk12
     refine cnil ?_
     refine WC.mono (N := fun e w' => Sub [(4000000, .tuple #[]), (4, St (bytesOf r))] e ∧ Old w w') ?_ ?_
     ·refine WC.cond rfl (fun hc14 => ?_) (fun hc14 => ?_)
      ·try simp only [tstS] at hc14
       refine cseq <| cg <| zm rfl <| vq (Val.fieldAddr fld31_5 rfl) <| vq (Val.loadB scl29 rfl hb1 rfl) ?_
       first | refine vq (Val.rdlen sl29 (by assumption) rfl) ?_ | refine vq (Val.sllen Try.underlying29 rfl) ?_
       refine ve (Eff.call pf46 rfl (high_ok r.slots.length 1 (by decide))) ?_
       rintro v64 w13 ⟨hk13, rfl⟩
       replace hl := hl.up hk13; replace hs := hs.up hk13; replace hK := hK.up hk13; replace hb1 := hb1.up hk13
       refine vq (Val.sadd rfl rfl (by (try simp only [List.length_append, be_length]); omega)) <| za rfl <| cnil <| cseq <| cg <| za rfl <| cnil <| cblock ?_
       refine WC.loop (σ := Nat) (fun k => [(1, .pointer (some ⟨b1, 0, none⟩)), (4, St (A4 r ++ be 1 r.slots.length ++ (r.slots.take k).flatMap be44)), (6, I k)]) (fun k w' => Blk w' b1 [I r.kind, I r.id, St r.name, St r.digest, vl, vs] 31 ∧ RdS intS w'.heap.size w' vl r.list ∧ RdS slotS w'.heap.size w' vs r.slots ∧ Old w w' ∧ k ≤ r.slots.length) (fun k => r.slots.length - k) 0 (by rw [List.take_zero, List.flatMap_nil, List.append_nil]; repeat (first | exact Sub.nil _ | refine Sub.cons rfl ?_ | refine Sub.consM rfl ?_)) ⟨hb1, hl, hs, hK, by omega⟩ ?_
       rintro k wl ⟨hb1, hl, hs, hK, hk⟩
       refine cseq <| cseq <| cg <| zm rfl <| vq (Val.fieldAddr fld31_5 rfl) <| vq (Val.loadB scl29 rfl hb1 rfl) ?_
       first | refine vq (Val.rdlen sl29 (by assumption) rfl) ?_ | refine vq (Val.sllen Try.underlying29 rfl) ?_
       refine vq (Val.lss rfl rfl) <| cnil ?_
       refine WC.cond rfl (fun hc17 => ?_) (fun hc17 => ?_)
       ·try simp only [tstS] at hc17
        have ka : k < r.slots.length := by omega
        have kl := flat44_len (r.slots.take k)
        have kl2 : (r.slots.take k).length ≤ r.slots.length := by simp; omega
        obtain ⟨cs1, hc77, rfl, ok1⟩ := Rd.el hs ka
        refine cskip <| cseq <| cblock ?_
        refine WC.regionD (Below wl.heap.size wl) [0, 0, 1, 0, 0, 0, 1, 2, 0, 0, 1, 0, 0, 0, 1, 2, 0, 0] [0, 1, 2, 3, 4, 5, 6, 9, 10, 11, 12, 13, 14, 7, 8, 15, 16, 17] mixed (by kernel_rfl) ?_
        have hk14 : Below wl.heap.size wl wl.drew := (Below.refl _ _).drew
        have hCw : Below wl.heap.size wl wl.drew := (Below.refl _ _).drew
        generalize wl.drew = w14 at hk14 hCw ⊢
        have hb10 := hb1
        have hc770 := hc77
        replace hl := hl.up hk14; replace hs := hs.up hk14; replace hK := hK.up hk14; replace hb1 := hb1.up hk14; replace hc77 := hc77.up hk14
        refine zdm rfl rfl <| vd rfl (fun _ => Val.fieldAddr fld31_5 rfl) <| qc rfl rfl rfl hCw (fun W hW => Val.loadB scl29 rfl (hb10.up hW) rfl) rfl <| zdm rfl rfl <| vd rfl (fun _ => Val.indexAddr sl29 (by assumption) rfl rfl rfl side side) <| vd rfl (fun _ => Val.fieldAddrP fld66_0 rfl) <| qc rfl rfl rfl hCw (fun W hW => Val.loadEf scl3 rfl (hc770.up hW) rfl) rfl <| vd rfl (fun _ => Val.fieldAddr fld31_5 rfl) <| qc rfl rfl rfl hCw (fun W hW => Val.loadB scl29 rfl (hb10.up hW) rfl) rfl ?_
        refine zdm rfl rfl <| vd rfl (fun _ => Val.indexAddr sl29 (by assumption) rfl rfl rfl side side) <| vd rfl (fun _ => Val.fieldAddrP fld66_1 rfl) <| qc rfl rfl rfl hCw (fun W hW => Val.loadEf scl3 rfl (hc770.up hW) rfl) rfl ?_
        refine WD.eff rfl rfl rfl (Eff.call pf47 rfl (number4_ok _)) rfl ?_
        rintro v80 w15 ⟨hk15, rfl⟩
        refine ⟨fun hC => Below.trans hC (hk15.mono hC.size), ?_⟩
        replace hCw := Below.trans hCw (hk15.mono hCw.size)
        replace hl := hl.up hk15; replace hs := hs.up hk15; replace hK := hK.up hk15; replace hb1 := hb1.up hk15; replace hc77 := hc77.up hk15
        refine vd rfl (fun _ => Val.sadd rfl rfl (by (try simp only [List.length_append, be_length]); omega)) ?_
        refine WD.eff rfl rfl rfl (Eff.call pf47 rfl (number4_ok _)) rfl ?_
        rintro v88 w16 ⟨hk16, rfl⟩
        refine ⟨fun hC => Below.trans hC (hk16.mono hC.size), ?_⟩
        replace hCw := Below.trans hCw (hk16.mono hCw.size)
        replace hl := hl.up hk16; replace hs := hs.up hk16; replace hK := hK.up hk16; replace hb1 := hb1.up hk16; replace hc77 := hc77.up hk16
        refine vd rfl (fun _ => Val.sadd rfl rfl (by (try simp only [List.length_append, be_length]); omega)) <| zda rfl rfl ?_
        refine WD.nil ?_
        clear hb10 hc770
        clear hCw
        refine cg <| zm rfl <| vq (Val.addI rfl rfl side side) <| za rfl <| cnil ?_
        exact ⟨k + 1, by rw [take_succ_flatMap _ ka, be44, ← List.append_assoc, ← List.append_assoc]; repeat (first | exact Sub.nil _ | refine Sub.cons rfl ?_ | refine Sub.consM rfl ?_), ⟨hb1, hl, hs, hK, ka⟩, by omega⟩
       ·try simp only [tstS] at hc17
        refine WC.exit rfl ?_
        have e : bytesOf r = A4 r ++ be 1 r.slots.length ++ (r.slots.take k).flatMap be44 := by rw [List.take_of_length_le (by omega), List.append_assoc]; simp [bytesOf, bS, hc14]
        rw [e]; exact ⟨subs, hK⟩
      ·try simp only [tstS] at hc14
       refine cskip ?_
       have e : bytesOf r = A4 r := by simp [bytesOf, bS, hc14]
       rw [e]; exact ⟨subs, hK⟩
     ·skip
      rintro _ wc14 ⟨hsub, hK⟩
      refine WC.sub hsub ?_
      clear hsub
      refine cseq <| cg <| zm rfl <| za rfl <| cnil ?_
      refine WC.ret1 rfl rfl ?_
      exact ⟨hK, rfl⟩
end Go.Proofs.Ythlfolpcmcejkaa
