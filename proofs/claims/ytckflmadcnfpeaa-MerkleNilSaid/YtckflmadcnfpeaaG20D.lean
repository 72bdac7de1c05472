/- Tables, printed by gen.py. -/
import Derived.Test.YtckflmadcnfpeaaProg
import Derived.Test.YtckflmadcnfpeaaG20P
import Derived.Test.YtckflmadcnfpeaaSyArr
set_option linter.unusedVariables false
namespace Go.SyP
open Go Go.Sy Go.Proofs

def api_Pair.e (x : api_Pair) : List DV := [.i x.Key, .i x.Val]
def api_Cell.e (x : api_Cell) : List DV := [.i x.Val, .b x.Some]
def api_Span.e (x : api_Span) : List DV := [.i x.Lo, .i x.Hi]
def spliceref04_Pair.e (x : spliceref04_Pair) : List DV := [.i x.Key, .i x.Val]
def spliceref05_Cell.e (x : spliceref05_Cell) : List DV := [.i x.Val, .b x.Some]
def spliceref03_Span.e (x : spliceref03_Span) : List DV := [.i x.Lo, .i x.Hi]
def arr2_int.e (x : arr2_int) : List DV := [.i x.i0, .i x.i1]
def spliceref04_Mut.e (x : spliceref04_Mut) : List DV := [.i x.Client, .i x.Seq, .i x.Kind, .sl true x.Pairs.length (vec spliceref04_Pair.e spliceref04_Pair.z x.Pairs), .i x.Over.Lo, .i x.Over.Hi, .i x.Old]
def splicelaw20_Bits.e (x : splicelaw20_Bits) : List DV := [.n .u32 x.Bits, .n .u8 x.At]
theorem api_Pair.nl (x : api_Pair) : NLs (api_Pair.e x) := (.cons (.v _) (.cons (.v _) .nil))
theorem api_Cell.nl (x : api_Cell) : NLs (api_Cell.e x) := (.cons (.v _) (.cons (.v _) .nil))
theorem api_Span.nl (x : api_Span) : NLs (api_Span.e x) := (.cons (.v _) (.cons (.v _) .nil))
theorem spliceref04_Pair.nl (x : spliceref04_Pair) : NLs (spliceref04_Pair.e x) := (.cons (.v _) (.cons (.v _) .nil))
theorem spliceref05_Cell.nl (x : spliceref05_Cell) : NLs (spliceref05_Cell.e x) := (.cons (.v _) (.cons (.v _) .nil))
theorem spliceref03_Span.nl (x : spliceref03_Span) : NLs (spliceref03_Span.e x) := (.cons (.v _) (.cons (.v _) .nil))
theorem arr2_int.nl (x : arr2_int) : NLs (arr2_int.e x) := (.cons (.v _) (.cons (.v _) .nil))
theorem spliceref04_Mut.nl (x : spliceref04_Mut) : NLs (spliceref04_Mut.e x) := (.cons (.v _) (.cons (.v _) (.cons (.v _) (.cons (.sl fun _ _ => spliceref04_Pair.nl _) (.cons (.v _) (.cons (.v _) (.cons (.v _) .nil)))))))
theorem splicelaw20_Bits.nl (x : splicelaw20_Bits) : NLs (splicelaw20_Bits.e x) := (.cons (.v _) (.cons (.v _) .nil))
def merkle_Tree.g (x : merkle_Tree) (i : Nat) : List DV := if i < 8192 then arrG api_Cell.e 2 x.cells (i - 0) else if i < 12288 then arrG (eI .u32) 1 x.leaf (i - 8192) else if i < 12544 then arrG (eI .u32) 1 x.low (i - 12288) else if i < 12560 then arrG (eI .u32) 1 x.mid (i - 12544) else if i < 12561 then [((eI .u32) x.root).getD (i - 12560) dv0] else [dv0]
theorem merkle_Tree.gnl (x : merkle_Tree) (i : Nat) : NLs (merkle_Tree.g x i) := by
  unfold merkle_Tree.g
  split
  · exact arrG_nl api_Cell.nl
  · skip
    split
    · exact arrG_nl (nlI .u32)
    · skip
      split
      · exact arrG_nl (nlI .u32)
      · skip
        split
        · exact arrG_nl (nlI .u32)
        · skip
          split
          · exact getD_nl ((nlI .u32) _) _
          · skip
            exact .cons (.v _) .nil
theorem merkle_Tree.g_cells (x : merkle_Tree) {i j A : Nat} (hA : A = 0 + i * 2) (hi : i < 4096) (hj : j < 2) : merkle_Tree.g x (A + j) = [(api_Cell.e (x.cells i)).getD j dv0] := by
  subst hA
  unfold merkle_Tree.g
  rw [if_pos (by omega)]
  rw [show 0 + i * 2 + j - 0 = i * 2 + j by omega]
  exact arrG_at _ hj
theorem merkle_Tree.a_cells (x : merkle_Tree) {j A : Nat} (hA : A = 0) (hj : j < 8192) : merkle_Tree.g x (A + j) = [(arrL api_Cell.e x.cells 4096).getD j dv0] := by
  subst hA
  unfold merkle_Tree.g
  rw [if_pos (by omega)]
  rw [show 0 + j - 0 = j by omega]
  exact (arrL_get (s := 2) (by omega) (fun _ => rfl) _ (by omega)).symm
theorem merkle_Tree.set_cells (x : merkle_Tree) {i A : Nat} (hA : A = 0 + i * 2) (hi : i < 4096) (v : api_Cell) (q : Nat) (hq : q < 12561) : merkle_Tree.g { x with cells := upd x.cells i v } q = if A ≤ q ∧ q < A + 2 then [(api_Cell.e v).getD (q - A) dv0] else merkle_Tree.g x q := by
  subst hA
  by_cases h : 0 ≤ q ∧ q < 8192
  · have h1 := h.1
    have h2 := h.2
    by_cases h3 : 0 + i * 2 ≤ q ∧ q < 0 + i * 2 + 2
    · rw [if_pos h3]
      unfold merkle_Tree.g
      rw [if_pos (by omega), arrG_upd (by omega), if_pos (by omega), show q - 0 - i * 2 = q - (0 + i * 2) by omega]
    · rw [if_neg h3]
      unfold merkle_Tree.g
      rw [if_pos (by omega), if_pos (by omega), arrG_upd (by omega), if_neg (by omega)]
  · rw [if_neg (by omega)]
    unfold merkle_Tree.g
    exact ite_congr rfl (fun hc => absurd (show 0 ≤ q ∧ q < 8192 by omega) h) fun _ => rfl
theorem merkle_Tree.g_leaf (x : merkle_Tree) {i j A : Nat} (hA : A = 8192 + i * 1) (hi : i < 4096) (hj : j < 1) : merkle_Tree.g x (A + j) = [((eI .u32) (x.leaf i)).getD j dv0] := by
  subst hA
  unfold merkle_Tree.g
  rw [if_neg (by omega), if_pos (by omega)]
  rw [show 8192 + i * 1 + j - 8192 = i * 1 + j by omega]
  exact arrG_at _ hj
theorem merkle_Tree.a_leaf (x : merkle_Tree) {j A : Nat} (hA : A = 8192) (hj : j < 4096) : merkle_Tree.g x (A + j) = [(arrL (eI .u32) x.leaf 4096).getD j dv0] := by
  subst hA
  unfold merkle_Tree.g
  rw [if_neg (by omega), if_pos (by omega)]
  rw [show 8192 + j - 8192 = j by omega]
  exact (arrL_get (s := 1) (by omega) (fun _ => rfl) _ (by omega)).symm
theorem merkle_Tree.set_leaf (x : merkle_Tree) {i A : Nat} (hA : A = 8192 + i * 1) (hi : i < 4096) (v : Int) (q : Nat) (hq : q < 12561) : merkle_Tree.g { x with leaf := upd x.leaf i v } q = if A ≤ q ∧ q < A + 1 then [((eI .u32) v).getD (q - A) dv0] else merkle_Tree.g x q := by
  subst hA
  by_cases h : 8192 ≤ q ∧ q < 12288
  · have h1 := h.1
    have h2 := h.2
    by_cases h3 : 8192 + i * 1 ≤ q ∧ q < 8192 + i * 1 + 1
    · rw [if_pos h3]
      unfold merkle_Tree.g
      rw [if_neg (by omega), if_pos (by omega), arrG_upd (by omega), if_pos (by omega), show q - 8192 - i * 1 = q - (8192 + i * 1) by omega]
    · rw [if_neg h3]
      unfold merkle_Tree.g
      rw [if_neg (by omega), if_pos (by omega), if_neg (by omega), if_pos (by omega), arrG_upd (by omega), if_neg (by omega)]
  · rw [if_neg (by omega)]
    unfold merkle_Tree.g
    refine ite_congr rfl (fun _ => rfl) fun e0 => ?_
    exact ite_congr rfl (fun hc => absurd (show 8192 ≤ q ∧ q < 12288 by omega) h) fun _ => rfl
theorem merkle_Tree.w_leaf (x : merkle_Tree) {a m j A : Nat} (hA : A = 8192 + a) (hi : a + m ≤ 4096) (hj : j < m) : vec (eI .u32) 0 (winL x.leaf a m) j = merkle_Tree.g x (A + j) := by
  rw [show A + j = 8192 + (a + j) * 1 + 0 by omega, merkle_Tree.g_leaf x rfl (by omega) (by omega)]
  unfold vec
  rw [winL_get _ _ _ hj]
  rfl
theorem merkle_Tree.g_low (x : merkle_Tree) {i j A : Nat} (hA : A = 12288 + i * 1) (hi : i < 256) (hj : j < 1) : merkle_Tree.g x (A + j) = [((eI .u32) (x.low i)).getD j dv0] := by
  subst hA
  unfold merkle_Tree.g
  rw [if_neg (by omega), if_neg (by omega), if_pos (by omega)]
  rw [show 12288 + i * 1 + j - 12288 = i * 1 + j by omega]
  exact arrG_at _ hj
theorem merkle_Tree.a_low (x : merkle_Tree) {j A : Nat} (hA : A = 12288) (hj : j < 256) : merkle_Tree.g x (A + j) = [(arrL (eI .u32) x.low 256).getD j dv0] := by
  subst hA
  unfold merkle_Tree.g
  rw [if_neg (by omega), if_neg (by omega), if_pos (by omega)]
  rw [show 12288 + j - 12288 = j by omega]
  exact (arrL_get (s := 1) (by omega) (fun _ => rfl) _ (by omega)).symm
theorem merkle_Tree.set_low (x : merkle_Tree) {i A : Nat} (hA : A = 12288 + i * 1) (hi : i < 256) (v : Int) (q : Nat) (hq : q < 12561) : merkle_Tree.g { x with low := upd x.low i v } q = if A ≤ q ∧ q < A + 1 then [((eI .u32) v).getD (q - A) dv0] else merkle_Tree.g x q := by
  subst hA
  by_cases h : 12288 ≤ q ∧ q < 12544
  · have h1 := h.1
    have h2 := h.2
    by_cases h3 : 12288 + i * 1 ≤ q ∧ q < 12288 + i * 1 + 1
    · rw [if_pos h3]
      unfold merkle_Tree.g
      rw [if_neg (by omega), if_neg (by omega), if_pos (by omega), arrG_upd (by omega), if_pos (by omega), show q - 12288 - i * 1 = q - (12288 + i * 1) by omega]
    · rw [if_neg h3]
      unfold merkle_Tree.g
      rw [if_neg (by omega), if_neg (by omega), if_pos (by omega), if_neg (by omega), if_neg (by omega), if_pos (by omega), arrG_upd (by omega), if_neg (by omega)]
  · rw [if_neg (by omega)]
    unfold merkle_Tree.g
    refine ite_congr rfl (fun _ => rfl) fun e0 => ?_
    refine ite_congr rfl (fun _ => rfl) fun e1 => ?_
    exact ite_congr rfl (fun hc => absurd (show 12288 ≤ q ∧ q < 12544 by omega) h) fun _ => rfl
theorem merkle_Tree.w_low (x : merkle_Tree) {a m j A : Nat} (hA : A = 12288 + a) (hi : a + m ≤ 256) (hj : j < m) : vec (eI .u32) 0 (winL x.low a m) j = merkle_Tree.g x (A + j) := by
  rw [show A + j = 12288 + (a + j) * 1 + 0 by omega, merkle_Tree.g_low x rfl (by omega) (by omega)]
  unfold vec
  rw [winL_get _ _ _ hj]
  rfl
theorem merkle_Tree.g_mid (x : merkle_Tree) {i j A : Nat} (hA : A = 12544 + i * 1) (hi : i < 16) (hj : j < 1) : merkle_Tree.g x (A + j) = [((eI .u32) (x.mid i)).getD j dv0] := by
  subst hA
  unfold merkle_Tree.g
  rw [if_neg (by omega), if_neg (by omega), if_neg (by omega), if_pos (by omega)]
  rw [show 12544 + i * 1 + j - 12544 = i * 1 + j by omega]
  exact arrG_at _ hj
theorem merkle_Tree.a_mid (x : merkle_Tree) {j A : Nat} (hA : A = 12544) (hj : j < 16) : merkle_Tree.g x (A + j) = [(arrL (eI .u32) x.mid 16).getD j dv0] := by
  subst hA
  unfold merkle_Tree.g
  rw [if_neg (by omega), if_neg (by omega), if_neg (by omega), if_pos (by omega)]
  rw [show 12544 + j - 12544 = j by omega]
  exact (arrL_get (s := 1) (by omega) (fun _ => rfl) _ (by omega)).symm
theorem merkle_Tree.set_mid (x : merkle_Tree) {i A : Nat} (hA : A = 12544 + i * 1) (hi : i < 16) (v : Int) (q : Nat) (hq : q < 12561) : merkle_Tree.g { x with mid := upd x.mid i v } q = if A ≤ q ∧ q < A + 1 then [((eI .u32) v).getD (q - A) dv0] else merkle_Tree.g x q := by
  subst hA
  by_cases h : 12544 ≤ q ∧ q < 12560
  · have h1 := h.1
    have h2 := h.2
    by_cases h3 : 12544 + i * 1 ≤ q ∧ q < 12544 + i * 1 + 1
    · rw [if_pos h3]
      unfold merkle_Tree.g
      rw [if_neg (by omega), if_neg (by omega), if_neg (by omega), if_pos (by omega), arrG_upd (by omega), if_pos (by omega), show q - 12544 - i * 1 = q - (12544 + i * 1) by omega]
    · rw [if_neg h3]
      unfold merkle_Tree.g
      rw [if_neg (by omega), if_neg (by omega), if_neg (by omega), if_pos (by omega), if_neg (by omega), if_neg (by omega), if_neg (by omega), if_pos (by omega), arrG_upd (by omega), if_neg (by omega)]
  · rw [if_neg (by omega)]
    unfold merkle_Tree.g
    refine ite_congr rfl (fun _ => rfl) fun e0 => ?_
    refine ite_congr rfl (fun _ => rfl) fun e1 => ?_
    refine ite_congr rfl (fun _ => rfl) fun e2 => ?_
    exact ite_congr rfl (fun hc => absurd (show 12544 ≤ q ∧ q < 12560 by omega) h) fun _ => rfl
theorem merkle_Tree.w_mid (x : merkle_Tree) {a m j A : Nat} (hA : A = 12544 + a) (hi : a + m ≤ 16) (hj : j < m) : vec (eI .u32) 0 (winL x.mid a m) j = merkle_Tree.g x (A + j) := by
  rw [show A + j = 12544 + (a + j) * 1 + 0 by omega, merkle_Tree.g_mid x rfl (by omega) (by omega)]
  unfold vec
  rw [winL_get _ _ _ hj]
  rfl
theorem merkle_Tree.g_root (x : merkle_Tree) {j A : Nat} (hA : A = 12560) (hj : j < 1) : merkle_Tree.g x (A + j) = [((eI .u32) x.root).getD j dv0] := by
  subst hA
  unfold merkle_Tree.g
  rw [if_neg (by omega), if_neg (by omega), if_neg (by omega), if_neg (by omega), if_pos (by omega)]
  rw [show 12560 + j - 12560 = j by omega]
theorem merkle_Tree.set_root (x : merkle_Tree) {A : Nat} (hA : A = 12560) (v : Int) (q : Nat) (hq : q < 12561) : merkle_Tree.g { x with root := v } q = if A ≤ q ∧ q < A + 1 then [((eI .u32) v).getD (q - A) dv0] else merkle_Tree.g x q := by
  subst hA
  by_cases h : 12560 ≤ q ∧ q < 12560 + 1
  · have h1 := h.1
    have h2 := h.2
    rw [if_pos h]
    unfold merkle_Tree.g
    rw [if_neg (by omega), if_neg (by omega), if_neg (by omega), if_neg (by omega), if_pos (by omega)]
  · rw [if_neg h]
    unfold merkle_Tree.g
    refine ite_congr rfl (fun _ => rfl) fun e0 => ?_
    refine ite_congr rfl (fun _ => rfl) fun e1 => ?_
    refine ite_congr rfl (fun _ => rfl) fun e2 => ?_
    refine ite_congr rfl (fun _ => rfl) fun e3 => ?_
    exact ite_congr rfl (fun hc => absurd (show 12560 ≤ q ∧ q < 12560 + 1 by omega) h) fun _ => rfl
def bz91 : List DV := arrL api_Cell.e (fun _ => api_Cell.z) 4096 ++ (arrL (eI .u32) (fun _ => 0) 4096 ++ (arrL (eI .u32) (fun _ => 0) 256 ++ (arrL (eI .u32) (fun _ => 0) 16 ++ ((eI .u32) 0))))
set_option maxRecDepth 100000 in
theorem merkle_Tree.zg : ∀ j, j < 12561 → merkle_Tree.g merkle_Tree.z j = [bz91.getD j dv0] := by
  intro j hj
  unfold bz91 merkle_Tree.g merkle_Tree.z
  rw [zcat (s := 2) (N := 8192) (by omega) (fun _ => rfl) rfl]
  by_cases h0 : j < 8192
  · have k0 : j < 8192 := by omega
    rw [if_pos h0, if_pos k0]
    try rfl
  · have k0 : ¬ (j < 8192) := by omega
    rw [if_neg h0, if_neg k0]
    rw [zcat (s := 1) (N := 4096) (by omega) (fun _ => rfl) rfl]
    by_cases h1 : j < 12288
    · have k1 : j - 8192 < 4096 := by omega
      rw [if_pos h1, if_pos k1]
      try rfl
    · have k1 : ¬ (j - 8192 < 4096) := by omega
      rw [if_neg h1, if_neg k1]
      rw [show j - 8192 - 4096 = j - 12288 by omega]
      rw [zcat (s := 1) (N := 256) (by omega) (fun _ => rfl) rfl]
      by_cases h2 : j < 12544
      · have k2 : j - 12288 < 256 := by omega
        rw [if_pos h2, if_pos k2]
        try rfl
      · have k2 : ¬ (j - 12288 < 256) := by omega
        rw [if_neg h2, if_neg k2]
        rw [show j - 12288 - 256 = j - 12544 by omega]
        rw [zcat (s := 1) (N := 16) (by omega) (fun _ => rfl) rfl]
        by_cases h3 : j < 12560
        · have k3 : j - 12544 < 16 := by omega
          rw [if_pos h3, if_pos k3]
          try rfl
        · have k3 : ¬ (j - 12544 < 16) := by omega
          rw [if_neg h3, if_neg k3]
          rw [show j - 12544 - 16 = j - 12560 by omega]
          rw [if_pos (by omega)]
          try rfl
theorem bzv91 : (((List.replicate 4096 [.int .i64 0, .bool false]).flatten ++ ((List.replicate 4096 [.int .u32 0]).flatten ++ ((List.replicate 256 [.int .u32 0]).flatten ++ ((List.replicate 16 [.int .u32 0]).flatten ++ ([.int .u32 0])))) : List Value)).map DV.v = bz91 := by
  unfold bz91
  simp only [List.map_append, List.map_flatten, List.map_replicate, arrL_const]
  rfl
theorem bza91 : (((List.replicate 4096 [.int .i64 0, .bool false]).flatten ++ ((List.replicate 4096 [.int .u32 0]).flatten ++ ((List.replicate 256 [.int .u32 0]).flatten ++ ((List.replicate 16 [.int .u32 0]).flatten ++ ([.int .u32 0])))) : List Value)).all (·.oneCell') = true := (all_app (all_rep rfl _) (all_app (all_rep rfl _) (all_app (all_rep rfl _) (all_app (all_rep rfl _) rfl))))
theorem bzl91 : bz91.length = 12561 := by
  unfold bz91
  simp only [List.length_append, arrL_length (e := (eI .u32)) (s := 1) (fun _ => rfl), arrL_length (e := api_Cell.e) (s := 2) (fun _ => rfl)]
  rfl
def T : Tab where
  info := [(3, (1, 8, [.int .i64 0])), (4, (1, 1, [.bool false])), (5, (1, 1, [.int .u8 0])), (37, (1, 4, [.int .u32 0])), (42, (2, 16, [.int .i64 0, .int .i64 0])), (44, (2, 16, [.int .i64 0, .int .i64 0])), (46, (2, 16, [.int .i64 0, .int .i64 0])), (48, (2, 16, [.int .i64 0, .bool false])), (51, (2, 16, [.int .i64 0, .bool false])), (53, (1, 24, [.slice none 0 0])), (57, (1, 24, [.slice none 0 0])), (69, (2, 16, [.int .i64 0, .int .i64 0])), (71, (7, 72, [.int .i64 0, .int .i64 0, .int .i64 0, .slice none 0 0, .int .i64 0, .int .i64 0, .int .i64 0])), (74, (2, 8, [.int .u32 0, .int .u8 0])), (86, (8192, 65536, (List.replicate 4096 [.int .i64 0, .bool false]).flatten)), (87, (4096, 16384, (List.replicate 4096 [.int .u32 0]).flatten)), (88, (256, 1024, (List.replicate 256 [.int .u32 0]).flatten)), (89, (16, 64, (List.replicate 16 [.int .u32 0]).flatten)), (91, (12561, 83016, (List.replicate 4096 [.int .i64 0, .bool false]).flatten ++ ((List.replicate 4096 [.int .u32 0]).flatten ++ ((List.replicate 256 [.int .u32 0]).flatten ++ ((List.replicate 16 [.int .u32 0]).flatten ++ ([.int .u32 0])))))), (94, (2, 16, [.int .i64 0, .int .i64 0]))]
  aggs := [(3, false), (4, false), (5, false), (37, false), (42, true), (44, true), (46, true), (48, true), (51, true), (53, false), (57, false), (69, true), (71, true), (74, true), (86, true), (87, true), (88, true), (89, true), (91, true), (94, true)]
  flds := [((42, 0), (0, 3)), ((42, 1), (1, 3)), ((44, 1), (1, 3)), ((48, 0), (0, 3)), ((48, 1), (1, 4)), ((51, 0), (0, 3)), ((51, 1), (1, 4)), ((69, 1), (1, 3)), ((71, 0), (0, 3)), ((71, 1), (1, 3)), ((71, 2), (2, 3)), ((71, 3), (3, 53)), ((71, 4), (4, 69)), ((71, 5), (6, 3)), ((74, 0), (0, 37)), ((74, 1), (1, 5)), ((91, 0), (0, 86)), ((91, 1), (8192, 87)), ((91, 2), (12288, 88)), ((91, 3), (12544, 89)), ((91, 4), (12560, 37)), ((94, 0), (0, 3)), ((94, 1), (1, 3))]
  slices := [(22, 42), (29, 57), (31, 44), (34, 69), (53, 94), (57, 37), (60, 4), (84, 3), (92, 5)]
  strs := [9]
  ints := [(3, .i64), (5, .u8), (37, .u32), (40, .u64), (75, .u64)]
  arrs := [(46, (2, 3)), (86, (4096, 48)), (87, (4096, 37)), (88, (256, 37)), (89, (16, 37))]
  has := [3, 5, 37, 40]
  ptrs := [(23, 91)]
  bools := [4]
  strts := [(42, [(0, 1), (1, 1)]), (44, [(0, 1), (1, 1)]), (48, [(0, 1), (1, 1)]), (51, [(0, 1), (1, 1)]), (69, [(0, 1), (1, 1)]), (71, [(0, 1), (1, 1), (2, 1), (3, 1), (4, 2), (6, 1)]), (91, [(0, 8192), (8192, 4096), (12288, 256), (12544, 16), (12560, 1)])]
  eqs := [(44, [0, 0]), (48, [0, 1]), (69, [0, 0]), (94, [0, 0])]
theorem mixed : Try.prog.follows .mixedOrders = true := by kernel_rfl
theorem tok : TabOk Try.prog T := ⟨by kernel_rfl, by kernel_rfl, by kernel_rfl, by kernel_rfl, by kernel_rfl, by kernel_rfl, by kernel_rfl, by kernel_rfl, by kernel_rfl, by kernel_rfl, by kernel_rfl, by kernel_rfl⟩
abbrev eL4 (t : Bool) (xs : List Bool) : DV := .sl t xs.length (vec eB false xs)
abbrev eL37 (t : Bool) (xs : List Int) : DV := .sl t xs.length (vec (eI .u32) 0 xs)
abbrev eL42 (t : Bool) (xs : List api_Pair) : DV := .sl t xs.length (vec api_Pair.e api_Pair.z xs)
abbrev eL44 (t : Bool) (xs : List api_Span) : DV := .sl t xs.length (vec api_Span.e api_Span.z xs)
abbrev eL57 (t : Bool) (xs : List (List Int)) : DV := .sl t xs.length (vec (eL (eI .u32) 0) [] xs)
abbrev eL69 (t : Bool) (xs : List spliceref03_Span) : DV := .sl t xs.length (vec spliceref03_Span.e spliceref03_Span.z xs)
abbrev eL94 (t : Bool) (xs : List spliceref04_Pair) : DV := .sl t xs.length (vec spliceref04_Pair.e spliceref04_Pair.z xs)
abbrev eP4 (t : Bool) (xs : List Bool) (i off : Nat) : DV := .rop t xs.length (vec eB false xs) i off
abbrev eP37 (t : Bool) (xs : List Int) (i off : Nat) : DV := .rop t xs.length (vec (eI .u32) 0 xs) i off
abbrev eP42 (t : Bool) (xs : List api_Pair) (i off : Nat) : DV := .rop t xs.length (vec api_Pair.e api_Pair.z xs) i off
abbrev eP44 (t : Bool) (xs : List api_Span) (i off : Nat) : DV := .rop t xs.length (vec api_Span.e api_Span.z xs) i off
abbrev eP57 (t : Bool) (xs : List (List Int)) (i off : Nat) : DV := .rop t xs.length (vec (eL (eI .u32) 0) [] xs) i off
abbrev eP69 (t : Bool) (xs : List spliceref03_Span) (i off : Nat) : DV := .rop t xs.length (vec spliceref03_Span.e spliceref03_Span.z xs) i off
abbrev eP94 (t : Bool) (xs : List spliceref04_Pair) (i off : Nat) : DV := .rop t xs.length (vec spliceref04_Pair.e spliceref04_Pair.z xs) i off
abbrev eR3 (xs : List Int) : Row := .flat false 1 3 xs.length (vec (eI .i64) 0 xs)
abbrev eR5 (xs : List Int) : Row := .flat false 1 5 xs.length (vec (eI .u8) 0 xs)
abbrev eR37 (xs : List Int) : Row := .flat false 1 37 xs.length (vec (eI .u32) 0 xs)
abbrev eR42 (xs : List api_Pair) : Row := .flat false 2 42 xs.length (vec api_Pair.e api_Pair.z xs)
abbrev eR44 (xs : List api_Span) : Row := .flat false 2 44 xs.length (vec api_Span.e api_Span.z xs)
abbrev eR57 (xs : List (List Int)) : Row := .flat false 1 57 xs.length (vec (eL (eI .u32) 0) [] xs)
abbrev eR69 (xs : List spliceref03_Span) : Row := .flat false 2 69 xs.length (vec spliceref03_Span.e spliceref03_Span.z xs)
abbrev eR94 (xs : List spliceref04_Pair) : Row := .flat false 2 94 xs.length (vec spliceref04_Pair.e spliceref04_Pair.z xs)
abbrev eF37 (xs : List Int) : Row := .flat true 1 37 xs.length (vec (eI .u32) 0 xs)
abbrev eG44 (x : api_Span) : DV := .agg (api_Span.e x)
abbrev eG46 (x : arr2_int) : DV := .agg (arr2_int.e x)
abbrev eG48 (x : api_Cell) : DV := .agg (api_Cell.e x)
abbrev eG51 (x : spliceref05_Cell) : DV := .agg (spliceref05_Cell.e x)
abbrev eG69 (x : spliceref03_Span) : DV := .agg (spliceref03_Span.e x)
abbrev eG71 (x : spliceref04_Mut) : DV := .agg (spliceref04_Mut.e x)
abbrev eG74 (x : splicelaw20_Bits) : DV := .agg (splicelaw20_Bits.e x)
abbrev eG94 (x : spliceref04_Pair) : DV := .agg (spliceref04_Pair.e x)
abbrev eC42 (x : api_Pair) : List AV := [.i x.Key, .i x.Val]
abbrev eC46 (x : arr2_int) : List AV := [.i x.i0, .i x.i1]
abbrev eC48 (x : api_Cell) : List AV := [.i x.Val, .b x.Some]
abbrev eC51 (x : spliceref05_Cell) : List AV := [.i x.Val, .b x.Some]
abbrev eC71 (x : spliceref04_Mut) : List AV := [.i x.Client, .i x.Seq, .i x.Kind, .d (eL94 true x.Pairs), .i x.Over.Lo, .i x.Over.Hi, .i x.Old]
abbrev eC74 (x : splicelaw20_Bits) : List AV := [.n .u32 x.Bits, .n .u8 x.At]
abbrev eB91 (x : merkle_Tree) : Row := .flat false 1 91 12561 (merkle_Tree.g x)
noncomputable abbrev K3 (n i : Nat) : List Item := stackAt (Try.f3.body.getD .skip) (dgs 40 n [] ++ [i]) []
noncomputable abbrev K4 (n i : Nat) : List Item := stackAt (Try.f4.body.getD .skip) (dgs 40 n [] ++ [i]) []
noncomputable abbrev K5 (n i : Nat) : List Item := stackAt (Try.f5.body.getD .skip) (dgs 40 n [] ++ [i]) []
noncomputable abbrev K6 (n i : Nat) : List Item := stackAt (Try.f6.body.getD .skip) (dgs 40 n [] ++ [i]) []
noncomputable abbrev K7 (n i : Nat) : List Item := stackAt (Try.f7.body.getD .skip) (dgs 40 n [] ++ [i]) []
noncomputable abbrev K8 (n i : Nat) : List Item := stackAt (Try.f8.body.getD .skip) (dgs 40 n [] ++ [i]) []
noncomputable abbrev K9 (n i : Nat) : List Item := stackAt (Try.f9.body.getD .skip) (dgs 40 n [] ++ [i]) []
noncomputable abbrev K10 (n i : Nat) : List Item := stackAt (Try.f10.body.getD .skip) (dgs 40 n [] ++ [i]) []
noncomputable abbrev K11 (n i : Nat) : List Item := stackAt (Try.f11.body.getD .skip) (dgs 40 n [] ++ [i]) []
noncomputable abbrev K12 (n i : Nat) : List Item := stackAt (Try.f12.body.getD .skip) (dgs 40 n [] ++ [i]) []
noncomputable abbrev K13 (n i : Nat) : List Item := stackAt (Try.f13.body.getD .skip) (dgs 40 n [] ++ [i]) []
noncomputable abbrev K14 (n i : Nat) : List Item := stackAt (Try.f14.body.getD .skip) (dgs 40 n [] ++ [i]) []
noncomputable abbrev K15 (n i : Nat) : List Item := stackAt (Try.f15.body.getD .skip) (dgs 40 n [] ++ [i]) []
noncomputable abbrev K16 (n i : Nat) : List Item := stackAt (Try.f16.body.getD .skip) (dgs 40 n [] ++ [i]) []
noncomputable abbrev K17 (n i : Nat) : List Item := stackAt (Try.f17.body.getD .skip) (dgs 40 n [] ++ [i]) []
noncomputable abbrev K18 (n i : Nat) : List Item := stackAt (Try.f18.body.getD .skip) (dgs 40 n [] ++ [i]) []
noncomputable abbrev K19 (n i : Nat) : List Item := stackAt (Try.f19.body.getD .skip) (dgs 40 n [] ++ [i]) []
noncomputable abbrev K20 (n i : Nat) : List Item := stackAt (Try.f20.body.getD .skip) (dgs 40 n [] ++ [i]) []
noncomputable abbrev K21 (n i : Nat) : List Item := stackAt (Try.f21.body.getD .skip) (dgs 40 n [] ++ [i]) []
noncomputable abbrev K22 (n i : Nat) : List Item := stackAt (Try.f22.body.getD .skip) (dgs 40 n [] ++ [i]) []
noncomputable abbrev K23 (n i : Nat) : List Item := stackAt (Try.f23.body.getD .skip) (dgs 40 n [] ++ [i]) []
noncomputable abbrev K24 (n i : Nat) : List Item := stackAt (Try.f24.body.getD .skip) (dgs 40 n [] ++ [i]) []
noncomputable abbrev K25 (n i : Nat) : List Item := stackAt (Try.f25.body.getD .skip) (dgs 40 n [] ++ [i]) []
noncomputable abbrev K26 (n i : Nat) : List Item := stackAt (Try.f26.body.getD .skip) (dgs 40 n [] ++ [i]) []
noncomputable abbrev K27 (n i : Nat) : List Item := stackAt (Try.f27.body.getD .skip) (dgs 40 n [] ++ [i]) []
noncomputable abbrev K28 (n i : Nat) : List Item := stackAt (Try.f28.body.getD .skip) (dgs 40 n [] ++ [i]) []
noncomputable abbrev K29 (n i : Nat) : List Item := stackAt (Try.f29.body.getD .skip) (dgs 40 n [] ++ [i]) []
noncomputable abbrev K30 (n i : Nat) : List Item := stackAt (Try.f30.body.getD .skip) (dgs 40 n [] ++ [i]) []
noncomputable abbrev K31 (n i : Nat) : List Item := stackAt (Try.f31.body.getD .skip) (dgs 40 n [] ++ [i]) []
noncomputable abbrev K32 (n i : Nat) : List Item := stackAt (Try.f32.body.getD .skip) (dgs 40 n [] ++ [i]) []
noncomputable abbrev K33 (n i : Nat) : List Item := stackAt (Try.f33.body.getD .skip) (dgs 40 n [] ++ [i]) []
noncomputable abbrev K34 (n i : Nat) : List Item := stackAt (Try.f34.body.getD .skip) (dgs 40 n [] ++ [i]) []
noncomputable abbrev K35 (n i : Nat) : List Item := stackAt (Try.f35.body.getD .skip) (dgs 40 n [] ++ [i]) []
noncomputable abbrev K36 (n i : Nat) : List Item := stackAt (Try.f36.body.getD .skip) (dgs 40 n [] ++ [i]) []
noncomputable abbrev K37 (n i : Nat) : List Item := stackAt (Try.f37.body.getD .skip) (dgs 40 n [] ++ [i]) []
noncomputable abbrev K38 (n i : Nat) : List Item := stackAt (Try.f38.body.getD .skip) (dgs 40 n [] ++ [i]) []
noncomputable abbrev K39 (n i : Nat) : List Item := stackAt (Try.f39.body.getD .skip) (dgs 40 n [] ++ [i]) []
noncomputable abbrev K40 (n i : Nat) : List Item := stackAt (Try.f40.body.getD .skip) (dgs 40 n [] ++ [i]) []
noncomputable abbrev K41 (n i : Nat) : List Item := stackAt (Try.f41.body.getD .skip) (dgs 40 n [] ++ [i]) []
noncomputable abbrev K42 (n i : Nat) : List Item := stackAt (Try.f42.body.getD .skip) (dgs 40 n [] ++ [i]) []
noncomputable abbrev K43 (n i : Nat) : List Item := stackAt (Try.f43.body.getD .skip) (dgs 40 n [] ++ [i]) []
noncomputable abbrev K44 (n i : Nat) : List Item := stackAt (Try.f44.body.getD .skip) (dgs 40 n [] ++ [i]) []
noncomputable abbrev K45 (n i : Nat) : List Item := stackAt (Try.f45.body.getD .skip) (dgs 40 n [] ++ [i]) []
noncomputable abbrev K46 (n i : Nat) : List Item := stackAt (Try.f46.body.getD .skip) (dgs 40 n [] ++ [i]) []
noncomputable abbrev K47 (n i : Nat) : List Item := stackAt (Try.f47.body.getD .skip) (dgs 40 n [] ++ [i]) []
noncomputable abbrev K48 (n i : Nat) : List Item := stackAt (Try.f48.body.getD .skip) (dgs 40 n [] ++ [i]) []
noncomputable abbrev K51 (n i : Nat) : List Item := stackAt (Try.f51.body.getD .skip) (dgs 40 n [] ++ [i]) []
noncomputable abbrev K52 (n i : Nat) : List Item := stackAt (Try.f52.body.getD .skip) (dgs 40 n [] ++ [i]) []
theorem enters_10 : Sy.Enters Try.prog 10 := enters_fn Try.func10 (by kernel_rfl) (by kernel_rfl)
theorem enters_11 : Sy.Enters Try.prog 11 := enters_fn Try.func11 (by kernel_rfl) (by kernel_rfl)
theorem enters_12 : Sy.Enters Try.prog 12 := enters_fn Try.func12 (by kernel_rfl) (by kernel_rfl)
theorem enters_13 : Sy.Enters Try.prog 13 := enters_fn Try.func13 (by kernel_rfl) (by kernel_rfl)
theorem enters_14 : Sy.Enters Try.prog 14 := enters_fn Try.func14 (by kernel_rfl) (by kernel_rfl)
theorem enters_15 : Sy.Enters Try.prog 15 := enters_fn Try.func15 (by kernel_rfl) (by kernel_rfl)
theorem enters_16 : Sy.Enters Try.prog 16 := enters_fn Try.func16 (by kernel_rfl) (by kernel_rfl)
theorem enters_17 : Sy.Enters Try.prog 17 := enters_fn Try.func17 (by kernel_rfl) (by kernel_rfl)
theorem enters_18 : Sy.Enters Try.prog 18 := enters_fn Try.func18 (by kernel_rfl) (by kernel_rfl)
theorem enters_19 : Sy.Enters Try.prog 19 := enters_fn Try.func19 (by kernel_rfl) (by kernel_rfl)
theorem enters_20 : Sy.Enters Try.prog 20 := enters_fn Try.func20 (by kernel_rfl) (by kernel_rfl)
theorem enters_21 : Sy.Enters Try.prog 21 := enters_fn Try.func21 (by kernel_rfl) (by kernel_rfl)
theorem enters_22 : Sy.Enters Try.prog 22 := enters_fn Try.func22 (by kernel_rfl) (by kernel_rfl)
theorem enters_23 : Sy.Enters Try.prog 23 := enters_fn Try.func23 (by kernel_rfl) (by kernel_rfl)
theorem enters_24 : Sy.Enters Try.prog 24 := enters_fn Try.func24 (by kernel_rfl) (by kernel_rfl)
theorem enters_25 : Sy.Enters Try.prog 25 := enters_fn Try.func25 (by kernel_rfl) (by kernel_rfl)
theorem enters_26 : Sy.Enters Try.prog 26 := enters_fn Try.func26 (by kernel_rfl) (by kernel_rfl)
theorem enters_27 : Sy.Enters Try.prog 27 := enters_fn Try.func27 (by kernel_rfl) (by kernel_rfl)
theorem enters_28 : Sy.Enters Try.prog 28 := enters_fn Try.func28 (by kernel_rfl) (by kernel_rfl)
theorem enters_29 : Sy.Enters Try.prog 29 := enters_fn Try.func29 (by kernel_rfl) (by kernel_rfl)
theorem enters_30 : Sy.Enters Try.prog 30 := enters_fn Try.func30 (by kernel_rfl) (by kernel_rfl)
theorem enters_31 : Sy.Enters Try.prog 31 := enters_fn Try.func31 (by kernel_rfl) (by kernel_rfl)
theorem enters_32 : Sy.Enters Try.prog 32 := enters_fn Try.func32 (by kernel_rfl) (by kernel_rfl)
theorem enters_33 : Sy.Enters Try.prog 33 := enters_fn Try.func33 (by kernel_rfl) (by kernel_rfl)
theorem enters_34 : Sy.Enters Try.prog 34 := enters_fn Try.func34 (by kernel_rfl) (by kernel_rfl)
theorem enters_35 : Sy.Enters Try.prog 35 := enters_fn Try.func35 (by kernel_rfl) (by kernel_rfl)
theorem enters_36 : Sy.Enters Try.prog 36 := enters_fn Try.func36 (by kernel_rfl) (by kernel_rfl)
theorem enters_37 : Sy.Enters Try.prog 37 := enters_fn Try.func37 (by kernel_rfl) (by kernel_rfl)
theorem enters_38 : Sy.Enters Try.prog 38 := enters_fn Try.func38 (by kernel_rfl) (by kernel_rfl)
theorem enters_39 : Sy.Enters Try.prog 39 := enters_fn Try.func39 (by kernel_rfl) (by kernel_rfl)
theorem enters_40 : Sy.Enters Try.prog 40 := enters_fn Try.func40 (by kernel_rfl) (by kernel_rfl)
theorem enters_41 : Sy.Enters Try.prog 41 := enters_fn Try.func41 (by kernel_rfl) (by kernel_rfl)
theorem enters_42 : Sy.Enters Try.prog 42 := enters_fn Try.func42 (by kernel_rfl) (by kernel_rfl)
theorem enters_43 : Sy.Enters Try.prog 43 := enters_fn Try.func43 (by kernel_rfl) (by kernel_rfl)
theorem enters_44 : Sy.Enters Try.prog 44 := enters_fn Try.func44 (by kernel_rfl) (by kernel_rfl)
theorem enters_45 : Sy.Enters Try.prog 45 := enters_fn Try.func45 (by kernel_rfl) (by kernel_rfl)
theorem enters_46 : Sy.Enters Try.prog 46 := enters_fn Try.func46 (by kernel_rfl) (by kernel_rfl)
theorem enters_47 : Sy.Enters Try.prog 47 := enters_fn Try.func47 (by kernel_rfl) (by kernel_rfl)
theorem enters_48 : Sy.Enters Try.prog 48 := enters_fn Try.func48 (by kernel_rfl) (by kernel_rfl)
theorem enters_49 : Sy.Enters Try.prog 49 := enters_fn Try.func49 (by kernel_rfl) (by kernel_rfl)
theorem enters_50 : Sy.Enters Try.prog 50 := enters_fn Try.func50 (by kernel_rfl) (by kernel_rfl)
theorem enters_51 : Sy.Enters Try.prog 51 := enters_fn Try.func51 (by kernel_rfl) (by kernel_rfl)
theorem enters_52 : Sy.Enters Try.prog 52 := enters_fn Try.func52 (by kernel_rfl) (by kernel_rfl)
end Go.SyP
