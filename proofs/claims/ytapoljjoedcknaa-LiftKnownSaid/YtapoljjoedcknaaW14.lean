/- What the functions of this program compute, as plain functions, and that the program computes them. No conditions. -/
import Derived.Test.YtapoljjoedcknaaProg
import Derived.Test.YtapoljjoedcknaaW8
import Derived.KernelRfl
import Derived.Test.YtapoljjoedcknaaW13
set_option linter.all false
namespace Go.Ab
open Go Go.Proofs
set_option linter.unusedVariables false
set_option linter.unusedSimpArgs false
set_option maxRecDepth 100000
set_option maxHeartbeats 4000000
@[reducible] noncomputable def D8_s7 (x5 : Tapi_Lift) (x7 : ((List Tapi_Q) × Int)) (x9 : ((List Tapi_Q) × Int)) (x11 : (Tapi_Q × Int)) : List AObj := [oX false false 4 (.agg [vI x5.Grain, vI x5.Count, vI x5.One, .ref 4 0 x5.Rows.length]), oR true 2 eTapi_Q x7.1, oR true 2 eTapi_Q x9.1, oX true true 2 (.agg [vI x11.1.N, vI x11.1.D]), oR false 1 (eL true eI) x5.Rows]
@[reducible] noncomputable def D8_s19 (x7 : ((List Tapi_Q) × Int)) (x9 : ((List Tapi_Q) × Int)) (x11 : (Tapi_Q × Int)) (x13 : (Tapi_Q × Int)) (x15 : ((List Tapi_Q) × Int)) (x17 : (Tapi_Q × Int)) (x19 : (Tapi_Q × Int)) (x21 : (Tapi_Q × Int)) (x23 : (Tapi_Q × Int)) (x25 : ((List Tapi_Q) × Int)) (x27 : (Tapi_Net × Int)) (x29 : (Tapi_Q × Int)) : List (Nat × AV) := [(1, .ptr 0 0 0), (2, .ref 1 0 x7.1.length), (3, vI x7.2), (4, .ref 2 0 x9.1.length), (5, vI x9.2), (6, .ptr 3 0 0), (7, vI x11.2), (9, vI x13.2), (11, vI x15.2), (13, vI x17.2), (15, vI x19.2), (17, vI x21.2), (19, vI x23.2), (21, vI x25.2), (22, .ptr 4 0 0), (23, vI x27.2), (24, .ptr 5 0 0), (25, vI x29.2)]
@[reducible] noncomputable def D8_s24 (x7 : ((List Tapi_Q) × Int)) (x9 : ((List Tapi_Q) × Int)) (x11 : (Tapi_Q × Int)) (x13 : (Tapi_Q × Int)) (x15 : ((List Tapi_Q) × Int)) (x17 : (Tapi_Q × Int)) (x19 : (Tapi_Q × Int)) (x21 : (Tapi_Q × Int)) (x23 : (Tapi_Q × Int)) (x25 : ((List Tapi_Q) × Int)) (x27 : (Tapi_Net × Int)) (x29 : (Tapi_Q × Int)) (s31 : Int) : List (Nat × AV) := [(1, .ptr 0 0 0), (2, .ref 1 0 x7.1.length), (3, vI x7.2), (4, .ref 2 0 x9.1.length), (5, vI x9.2), (6, .ptr 3 0 0), (7, vI x11.2), (9, vI x13.2), (11, vI x15.2), (13, vI x17.2), (15, vI x19.2), (17, vI x21.2), (19, vI x23.2), (21, vI x25.2), (22, .ptr 4 0 0), (23, vI x27.2), (24, .ptr 5 0 0), (25, vI x29.2), (111, .ref 6 0 (([(Tharuspexref14_Bend.mk 0 0 0 21), (Tharuspexref14_Bend.mk 0 0 0 0), (Tharuspexref14_Bend.mk 1 0 0 3), (Tharuspexref14_Bend.mk 1 0 0 (-1)), (Tharuspexref14_Bend.mk 2 0 0 5), (Tharuspexref14_Bend.mk 2 0 0 (-1)), (Tharuspexref14_Bend.mk 3 0 0 (-4)), (Tharuspexref14_Bend.mk 3 0 0 3), (Tharuspexref14_Bend.mk 4 0 0 0), (Tharuspexref14_Bend.mk 5 0 0 0), (Tharuspexref14_Bend.mk 6 0 0 0), (Tharuspexref14_Bend.mk 3 1 0 4611686018427387904)] : (List Tharuspexref14_Bend)).length)), (112, vI 12), (113, vI s31)]
@[reducible] noncomputable def D8_s25 (x5 : Tapi_Lift) (x7 : ((List Tapi_Q) × Int)) (x9 : ((List Tapi_Q) × Int)) (x11 : (Tapi_Q × Int)) (x27 : (Tapi_Net × Int)) (x29 : (Tapi_Q × Int)) : List AObj := [oX false false 4 (.agg [vI x5.Grain, vI x5.Count, vI x5.One, .ref 7 0 x5.Rows.length]), oR true 2 eTapi_Q x7.1, oR true 2 eTapi_Q x9.1, oX true true 2 (.agg [vI x11.1.N, vI x11.1.D]), oX false false 2 (.agg [vI x27.1.Grain, .ref 8 0 x27.1.Nodes.length]), oX true true 2 (.agg [vI x29.1.N, vI x29.1.D]), oR true 4 eTharuspexref14_Bend ([(Tharuspexref14_Bend.mk 0 0 0 21), (Tharuspexref14_Bend.mk 0 0 0 0), (Tharuspexref14_Bend.mk 1 0 0 3), (Tharuspexref14_Bend.mk 1 0 0 (-1)), (Tharuspexref14_Bend.mk 2 0 0 5), (Tharuspexref14_Bend.mk 2 0 0 (-1)), (Tharuspexref14_Bend.mk 3 0 0 (-4)), (Tharuspexref14_Bend.mk 3 0 0 3), (Tharuspexref14_Bend.mk 4 0 0 0), (Tharuspexref14_Bend.mk 5 0 0 0), (Tharuspexref14_Bend.mk 6 0 0 0), (Tharuspexref14_Bend.mk 3 1 0 4611686018427387904)] : (List Tharuspexref14_Bend)), .row false true true false 1 (List.map (eL true eI) x5.Rows), oR false 3 eTapi_Node x27.1.Nodes]
@[reducible] noncomputable def D8_s26 (x7 : ((List Tapi_Q) × Int)) (x9 : ((List Tapi_Q) × Int)) (x11 : (Tapi_Q × Int)) (x13 : (Tapi_Q × Int)) (x15 : ((List Tapi_Q) × Int)) (x17 : (Tapi_Q × Int)) (x19 : (Tapi_Q × Int)) (x21 : (Tapi_Q × Int)) (x23 : (Tapi_Q × Int)) (x25 : ((List Tapi_Q) × Int)) (x27 : (Tapi_Net × Int)) (x29 : (Tapi_Q × Int)) : List (Nat × AV) := [(2, .ref 0 0 x7.1.length), (3, vI x7.2), (4, .ref 1 0 x9.1.length), (5, vI x9.2), (6, .ptr 2 0 0), (7, vI x11.2), (9, vI x13.2), (11, vI x15.2), (13, vI x17.2), (15, vI x19.2), (17, vI x21.2), (19, vI x23.2), (21, vI x25.2), (22, .ptr 3 0 0), (23, vI x27.2), (24, .ptr 4 0 0), (25, vI x29.2)]
@[reducible] noncomputable def D8_s27 (x7 : ((List Tapi_Q) × Int)) (x9 : ((List Tapi_Q) × Int)) (x11 : (Tapi_Q × Int)) (x27 : (Tapi_Net × Int)) (x29 : (Tapi_Q × Int)) : List AObj := [oR true 2 eTapi_Q x7.1, oR true 2 eTapi_Q x9.1, oX true true 2 (.agg [vI x11.1.N, vI x11.1.D]), oX false false 2 (.agg [vI x27.1.Grain, .ref 5 0 x27.1.Nodes.length]), oX true true 2 (.agg [vI x29.1.N, vI x29.1.D]), oR false 3 eTapi_Node x27.1.Nodes]
@[reducible] noncomputable def D8_s34 (x7 : ((List Tapi_Q) × Int)) (x9 : ((List Tapi_Q) × Int)) (x11 : (Tapi_Q × Int)) (x13 : (Tapi_Q × Int)) (x15 : ((List Tapi_Q) × Int)) (x17 : (Tapi_Q × Int)) (x19 : (Tapi_Q × Int)) (x21 : (Tapi_Q × Int)) (x23 : (Tapi_Q × Int)) (x25 : ((List Tapi_Q) × Int)) (x27 : (Tapi_Net × Int)) (x29 : (Tapi_Q × Int)) : List (Nat × AV) := [(2, .ref 0 0 x7.1.length), (3, vI x7.2), (4, .ref 1 0 x9.1.length), (5, vI x9.2), (6, .ptr 2 0 0), (7, vI x11.2), (9, vI x13.2), (11, vI x15.2), (13, vI x17.2), (15, vI x19.2), (17, vI x21.2), (19, vI x23.2), (21, vI x25.2), (22, .ptr 3 0 0), (23, vI x27.2), (24, .ptr 4 0 0), (25, vI x29.2), (28, .ptr 5 0 0), (124, vI 0)]
@[reducible] noncomputable def D8_s39 (x7 : ((List Tapi_Q) × Int)) (x9 : ((List Tapi_Q) × Int)) (x11 : (Tapi_Q × Int)) (x13 : (Tapi_Q × Int)) (x15 : ((List Tapi_Q) × Int)) (x17 : (Tapi_Q × Int)) (x19 : (Tapi_Q × Int)) (x21 : (Tapi_Q × Int)) (x23 : (Tapi_Q × Int)) (x25 : ((List Tapi_Q) × Int)) (x27 : (Tapi_Net × Int)) (x29 : (Tapi_Q × Int)) (s45 : (Int × (List (List Int)))) : List (Nat × AV) := [(2, .ref 0 0 x7.1.length), (3, vI x7.2), (4, .ref 1 0 x9.1.length), (5, vI x9.2), (6, .ptr 2 0 0), (7, vI x11.2), (9, vI x13.2), (11, vI x15.2), (13, vI x17.2), (15, vI x19.2), (17, vI x21.2), (19, vI x23.2), (21, vI x25.2), (22, .ptr 3 0 0), (23, vI x27.2), (24, .ptr 4 0 0), (25, vI x29.2), (28, .ptr 5 0 0), (124, vI s45.1)]
@[reducible] noncomputable def D8_s40 (x7 : ((List Tapi_Q) × Int)) (x9 : ((List Tapi_Q) × Int)) (x11 : (Tapi_Q × Int)) (x27 : (Tapi_Net × Int)) (x29 : (Tapi_Q × Int)) (s45 : (Int × (List (List Int)))) : List AObj := [oR true 2 eTapi_Q x7.1, oR true 2 eTapi_Q x9.1, oX true true 2 (.agg [vI x11.1.N, vI x11.1.D]), oX false false 2 (.agg [vI x27.1.Grain, .ref 6 0 x27.1.Nodes.length]), oX true true 2 (.agg [vI x29.1.N, vI x29.1.D]), oX false false 4 (.agg [vI 20, vI 10, vI 10, .ref 7 0 ((s45.2 ++ ([[5, 15]] : (List (List Int)))).length)]), oR false 3 eTapi_Node x27.1.Nodes, oR false 1 (eL true eI) (s45.2 ++ ([[5, 15]] : (List (List Int))))]
@[reducible] noncomputable def D8_s41 (x7 : ((List Tapi_Q) × Int)) (x9 : ((List Tapi_Q) × Int)) (x11 : (Tapi_Q × Int)) (x13 : (Tapi_Q × Int)) (x15 : ((List Tapi_Q) × Int)) (x17 : (Tapi_Q × Int)) (x19 : (Tapi_Q × Int)) (x21 : (Tapi_Q × Int)) (x23 : (Tapi_Q × Int)) (x25 : ((List Tapi_Q) × Int)) (x27 : (Tapi_Net × Int)) (x29 : (Tapi_Q × Int)) : List (Nat × AV) := [(2, .ref 0 0 x7.1.length), (3, vI x7.2), (4, .ref 1 0 x9.1.length), (5, vI x9.2), (6, .ptr 2 0 0), (7, vI x11.2), (9, vI x13.2), (11, vI x15.2), (13, vI x17.2), (15, vI x19.2), (17, vI x21.2), (19, vI x23.2), (21, vI x25.2), (22, .ptr 3 0 0), (23, vI x27.2), (24, .ptr 4 0 0), (25, vI x29.2), (28, .ptr 5 0 0)]
@[reducible] noncomputable def D8_s42 (x7 : ((List Tapi_Q) × Int)) (x9 : ((List Tapi_Q) × Int)) (x11 : (Tapi_Q × Int)) (x27 : (Tapi_Net × Int)) (x29 : (Tapi_Q × Int)) (s45 : (Int × (List (List Int)))) : List AObj := [oR true 2 eTapi_Q x7.1, oR true 2 eTapi_Q x9.1, oX true true 2 (.agg [vI x11.1.N, vI x11.1.D]), oX false false 2 (.agg [vI x27.1.Grain, .ref 6 0 x27.1.Nodes.length]), oX true true 2 (.agg [vI x29.1.N, vI x29.1.D]), oX false false 4 (.agg [vI 20, vI 10, vI 10, .ref 7 0 s45.2.length]), oR false 3 eTapi_Node x27.1.Nodes, oR false 1 (eL true eI) s45.2]
@[reducible] noncomputable def D8_s57 (x7 : ((List Tapi_Q) × Int)) (x9 : ((List Tapi_Q) × Int)) (x11 : (Tapi_Q × Int)) (x27 : (Tapi_Net × Int)) (x29 : (Tapi_Q × Int)) (x52 : (Tapi_Q × Int)) (x54 : ((List Tapi_Q) × Int)) : List AObj := [oR true 2 eTapi_Q x7.1, oR true 2 eTapi_Q x9.1, oX true true 2 (.agg [vI x11.1.N, vI x11.1.D]), oX false false 2 (.agg [vI x27.1.Grain, .ref 7 0 x27.1.Nodes.length]), oX true true 2 (.agg [vI x29.1.N, vI x29.1.D]), oX true true 2 (.agg [vI x52.1.N, vI x52.1.D]), oR true 2 eTapi_Q x54.1, oR false 3 eTapi_Node x27.1.Nodes]
@[reducible] noncomputable def D8_s71 (x7 : ((List Tapi_Q) × Int)) (x9 : ((List Tapi_Q) × Int)) (x11 : (Tapi_Q × Int)) (x27 : (Tapi_Net × Int)) (x29 : (Tapi_Q × Int)) (x52 : (Tapi_Q × Int)) (x54 : ((List Tapi_Q) × Int)) : List (Nat × AV) := [(2, .ref 0 0 x7.1.length), (3, vI x7.2), (4, .ref 1 0 x9.1.length), (5, vI x9.2), (6, .ptr 2 0 0), (7, vI x11.2), (22, .ptr 3 0 0), (23, vI x27.2), (24, .ptr 4 0 0), (25, vI x29.2), (31, .ptr 5 0 0), (32, vI x52.2), (33, .ref 6 0 x54.1.length), (34, vI x54.2), (35, vB true), (178, vB true), (179, vB true), (180, vI x7.2), (181, vB true), (182, vB true), (183, vB true), (184, .ref 0 0 x7.1.length)]
@[reducible] noncomputable def D8_s72 (x7 : ((List Tapi_Q) × Int)) (x9 : ((List Tapi_Q) × Int)) (x11 : (Tapi_Q × Int)) (x27 : (Tapi_Net × Int)) (x29 : (Tapi_Q × Int)) (x52 : (Tapi_Q × Int)) (x54 : ((List Tapi_Q) × Int)) (x74 : (List Tapi_Q)) : List AObj := [oR true 2 eTapi_Q x7.1, oR true 2 eTapi_Q x9.1, oX true true 2 (.agg [vI x11.1.N, vI x11.1.D]), oX false false 2 (.agg [vI x27.1.Grain, .ref 7 0 x27.1.Nodes.length]), oX true true 2 (.agg [vI x29.1.N, vI x29.1.D]), oX true true 2 (.agg [vI x52.1.N, vI x52.1.D]), oR true 2 eTapi_Q x54.1, oR false 3 eTapi_Node x27.1.Nodes, .row false false true true 1 [vI 3, vI 1], oR true 2 eTapi_Q x74]
@[reducible] noncomputable def D8_s73 (x7 : ((List Tapi_Q) × Int)) (x9 : ((List Tapi_Q) × Int)) (x11 : (Tapi_Q × Int)) (x27 : (Tapi_Net × Int)) (x29 : (Tapi_Q × Int)) (x52 : (Tapi_Q × Int)) (x54 : ((List Tapi_Q) × Int)) (x74 : (List Tapi_Q)) : List (Nat × AV) := (D8_s71 x7 x9 x11 x27 x29 x52 x54) ++ [(185, .ref 8 0 2), (186, .ref 9 0 x74.length), (187, vB true), (188, vB true), (189, vB true), (190, vI x9.2), (191, vB true), (192, vB true), (193, vB true), (194, .ref 1 0 x9.1.length)]
@[reducible] noncomputable def D8_s74 (x7 : ((List Tapi_Q) × Int)) (x9 : ((List Tapi_Q) × Int)) (x11 : (Tapi_Q × Int)) (x27 : (Tapi_Net × Int)) (x29 : (Tapi_Q × Int)) (x52 : (Tapi_Q × Int)) (x54 : ((List Tapi_Q) × Int)) (x74 : (List Tapi_Q)) (x82 : (List Tapi_Q)) : List AObj := [oR true 2 eTapi_Q x7.1, oR true 2 eTapi_Q x9.1, oX true true 2 (.agg [vI x11.1.N, vI x11.1.D]), oX false false 2 (.agg [vI x27.1.Grain, .ref 7 0 x27.1.Nodes.length]), oX true true 2 (.agg [vI x29.1.N, vI x29.1.D]), oX true true 2 (.agg [vI x52.1.N, vI x52.1.D]), oR true 2 eTapi_Q x54.1, oR false 3 eTapi_Node x27.1.Nodes, .row false false true true 1 [vI 3, vI 1], oR true 2 eTapi_Q x74, .row false false true true 1 [vI 0, vI 3, vI 1], oR true 2 eTapi_Q x82]
@[reducible] noncomputable def D8_s76 (x7 : ((List Tapi_Q) × Int)) (x9 : ((List Tapi_Q) × Int)) (x11 : (Tapi_Q × Int)) (x27 : (Tapi_Net × Int)) (x29 : (Tapi_Q × Int)) (x52 : (Tapi_Q × Int)) (x54 : ((List Tapi_Q) × Int)) (x74 : (List Tapi_Q)) (x82 : (List Tapi_Q)) : List (Nat × AV) := [(2, .ref 0 0 x7.1.length), (3, vI x7.2), (4, .ref 1 0 x9.1.length), (5, vI x9.2), (6, .ptr 2 0 0), (7, vI x11.2), (22, .ptr 3 0 0), (23, vI x27.2), (24, .ptr 4 0 0), (25, vI x29.2), (31, .ptr 5 0 0), (32, vI x52.2), (33, .ref 6 0 x54.1.length), (34, vI x54.2), (35, vB true), (178, vB true), (179, vB true), (180, vI x7.2), (181, vB true), (182, vB true), (183, vB true), (184, .ref 0 0 x7.1.length), (185, .ref 8 0 2), (186, .ref 9 0 x74.length), (187, vB true), (188, vB true), (189, vB true), (190, vI x9.2), (191, vB true), (192, vB true), (193, vB true), (194, .ref 1 0 x9.1.length), (195, .ref 10 0 3), (196, .ref 11 0 x82.length), (197, vB true), (198, vB true), (199, vB true), (200, vI x11.2), (201, vB true), (202, vB true), (203, vB true), (204, .agg [vI x11.1.N, vI x11.1.D])]
@[reducible] noncomputable def D8_s79 (x7 : ((List Tapi_Q) × Int)) (x9 : ((List Tapi_Q) × Int)) (x11 : (Tapi_Q × Int)) (x27 : (Tapi_Net × Int)) (x29 : (Tapi_Q × Int)) (x52 : (Tapi_Q × Int)) (x54 : ((List Tapi_Q) × Int)) (x74 : (List Tapi_Q)) (x82 : (List Tapi_Q)) (x90 : Tapi_Q) : List (Nat × AV) := (D8_s76 x7 x9 x11 x27 x29 x52 x54 x74 x82) ++ [(205, .agg [vI x90.N, vI x90.D]), (206, vB true), (207, vB true), (208, vB true), (209, vI x27.2), (210, vB true), (211, vB true), (212, vB true), (213, .ptr 3 0 1), (214, .ref 7 0 x27.1.Nodes.length), (215, vI (x27.1.Nodes.length : Int)), (216, vB true), (217, vB true), (218, vB true), (219, .ptr 3 0 1), (220, .ref 7 0 x27.1.Nodes.length)]
@[reducible] noncomputable def D8_s81 (x7 : ((List Tapi_Q) × Int)) (x9 : ((List Tapi_Q) × Int)) (x11 : (Tapi_Q × Int)) (x27 : (Tapi_Net × Int)) (x29 : (Tapi_Q × Int)) (x52 : (Tapi_Q × Int)) (x54 : ((List Tapi_Q) × Int)) (x74 : (List Tapi_Q)) (x82 : (List Tapi_Q)) (x90 : Tapi_Q) (a98 : Tapi_Node) : List (Nat × AV) := (D8_s79 x7 x9 x11 x27 x29 x52 x54 x74 x82 x90) ++ [(221, .ptr 7 (Int.toNat 2) 0), (222, .ptr 7 (Int.toNat 2) 2), (223, eL false (eL true eI) a98.Rows), (224, vI (a98.Rows.length : Int)), (225, vB true), (226, vB true), (227, vB true), (228, .ptr 3 0 1), (229, .ref 7 0 x27.1.Nodes.length)]
@[reducible] noncomputable def D8_s83 (x7 : ((List Tapi_Q) × Int)) (x9 : ((List Tapi_Q) × Int)) (x11 : (Tapi_Q × Int)) (x27 : (Tapi_Net × Int)) (x29 : (Tapi_Q × Int)) (x52 : (Tapi_Q × Int)) (x54 : ((List Tapi_Q) × Int)) (x74 : (List Tapi_Q)) (x82 : (List Tapi_Q)) : List AObj := [oR true 2 eTapi_Q x7.1, oR true 2 eTapi_Q x9.1, oX true true 2 (.agg [vI x11.1.N, vI x11.1.D]), oX false false 2 (.agg [vI x27.1.Grain, .ref 7 0 x27.1.Nodes.length]), oX true true 2 (.agg [vI x29.1.N, vI x29.1.D]), oX true true 2 (.agg [vI x52.1.N, vI x52.1.D]), oR true 2 eTapi_Q x54.1, oR false 3 eTapi_Node x27.1.Nodes, .row false false true true 1 [vI 3, vI 1], oR true 2 eTapi_Q x74, .row false false true true 1 [vI 0, vI 3, vI 1], oR true 2 eTapi_Q x82, .row false false true true 1 [vI 2, vI 2]]
@[reducible] noncomputable def D8_s84 (x7 : ((List Tapi_Q) × Int)) (x9 : ((List Tapi_Q) × Int)) (x11 : (Tapi_Q × Int)) (x27 : (Tapi_Net × Int)) (x29 : (Tapi_Q × Int)) (x52 : (Tapi_Q × Int)) (x54 : ((List Tapi_Q) × Int)) (x74 : (List Tapi_Q)) (x82 : (List Tapi_Q)) (x90 : Tapi_Q) (a98 : Tapi_Node) (a102 : (List Int)) : List (Nat × AV) := [(2, .ref 0 0 x7.1.length), (3, vI x7.2), (4, .ref 1 0 x9.1.length), (5, vI x9.2), (6, .ptr 2 0 0), (7, vI x11.2), (22, .ptr 3 0 0), (23, vI x27.2), (24, .ptr 4 0 0), (25, vI x29.2), (31, .ptr 5 0 0), (32, vI x52.2), (33, .ref 6 0 x54.1.length), (34, vI x54.2), (35, vB true), (178, vB true), (179, vB true), (180, vI x7.2), (181, vB true), (182, vB true), (183, vB true), (184, .ref 0 0 x7.1.length), (185, .ref 8 0 2), (186, .ref 9 0 x74.length), (187, vB true), (188, vB true), (189, vB true), (190, vI x9.2), (191, vB true), (192, vB true), (193, vB true), (194, .ref 1 0 x9.1.length), (195, .ref 10 0 3), (196, .ref 11 0 x82.length), (197, vB true), (198, vB true), (199, vB true), (200, vI x11.2), (201, vB true), (202, vB true), (203, vB true), (204, .agg [vI x11.1.N, vI x11.1.D]), (205, .agg [vI x90.N, vI x90.D]), (206, vB true), (207, vB true), (208, vB true), (209, vI x27.2), (210, vB true), (211, vB true), (212, vB true), (213, .ptr 3 0 1), (214, .ref 7 0 x27.1.Nodes.length), (215, vI (x27.1.Nodes.length : Int)), (216, vB true), (217, vB true), (218, vB true), (219, .ptr 3 0 1), (220, .ref 7 0 x27.1.Nodes.length), (221, .ptr 7 (Int.toNat 2) 0), (222, .ptr 7 (Int.toNat 2) 2), (223, eL false (eL true eI) a98.Rows), (224, vI (a98.Rows.length : Int)), (225, vB true), (226, vB true), (227, vB true), (228, .ptr 3 0 1), (229, .ref 7 0 x27.1.Nodes.length), (230, .ptr 7 (Int.toNat 2) 0), (231, .ptr 7 (Int.toNat 2) 2), (232, eL false (eL true eI) a98.Rows), (233, .fz [eL true eI a102]), (234, eL true eI a102), (235, .ref 12 0 2), (236, vB true), (237, vB true), (238, vB true), (239, .ptr 3 0 1), (240, .ref 7 0 x27.1.Nodes.length)]
@[reducible] noncomputable def D8_s85 (x7 : ((List Tapi_Q) × Int)) (x9 : ((List Tapi_Q) × Int)) (x11 : (Tapi_Q × Int)) (x27 : (Tapi_Net × Int)) (x29 : (Tapi_Q × Int)) (x52 : (Tapi_Q × Int)) (x54 : ((List Tapi_Q) × Int)) (x74 : (List Tapi_Q)) (x82 : (List Tapi_Q)) : List AObj := [oR true 2 eTapi_Q x7.1, oR true 2 eTapi_Q x9.1, oX true true 2 (.agg [vI x11.1.N, vI x11.1.D]), oX false false 2 (.agg [vI x27.1.Grain, .ref 7 0 x27.1.Nodes.length]), oX true true 2 (.agg [vI x29.1.N, vI x29.1.D]), oX true true 2 (.agg [vI x52.1.N, vI x52.1.D]), oR true 2 eTapi_Q x54.1, oR false 3 eTapi_Node x27.1.Nodes, .row false false true true 1 [vI 3, vI 1], oR true 2 eTapi_Q x74, .row false false true true 1 [vI 0, vI 3, vI 1], oR true 2 eTapi_Q x82, .row false false true true 1 [vI 2, vI 2], .row false false true true 1 [vI 0, vI 1]]
@[reducible] noncomputable def D8_s87 (x7 : ((List Tapi_Q) × Int)) (x9 : ((List Tapi_Q) × Int)) (x11 : (Tapi_Q × Int)) (x27 : (Tapi_Net × Int)) (x29 : (Tapi_Q × Int)) (x52 : (Tapi_Q × Int)) (x54 : ((List Tapi_Q) × Int)) (x74 : (List Tapi_Q)) (x82 : (List Tapi_Q)) (x90 : Tapi_Q) (a98 : Tapi_Node) (a102 : (List Int)) : List (Nat × AV) := (D8_s84 x7 x9 x11 x27 x29 x52 x54 x74 x82 x90 a98 a102) ++ [(241, .ptr 7 (Int.toNat 2) 0), (242, .ptr 7 (Int.toNat 2) 1), (243, eL true eI a98.Parents), (244, .ref 13 0 2), (245, vB true), (246, vB true), (247, vB true), (248, vI x29.2), (249, vB true), (250, vB true), (251, vB true), (252, .agg [vI x29.1.N, vI x29.1.D])]
theorem D8_ok  (x : Bool) (h : D8 = some x) : CallOk Try.prog 8 [] (.ret (vB x) []) := by
  refine fn_ok [] Try.func8 rfl (by decide +kernel) rfl ?_
  unfold D8 at h
  refine wp_eqB (base' := 0) (st' := ⟨[], [], 275⟩) rfl (by as_aux_lemma => kernel_rfl) ?_
  refine sq ?_
  refine wp_seq ?_
  refine wp_seq ?_
  refine reg_in ?_
  refine callZ (as0 := []) (ids := []) (by as_aux_lemma => kernel_rfl) bodyB_10 msnap_nil (fun x1 q2 => D10_ok  x1 q2) h (fun x1 q2 h => ?_)
  refine sz 1 2 ?_
  refine reg_end rfl ?_
  refine wbr (S := fun b3 => ⟨[(0, vB false), (36, vB x1), (37, vB b3)], [], 275⟩) h (fun q4 h => ?_) (fun q4 h => ?_)
  · refine wp_condT rfl ?_
    refine sq ?_
    refine wg [0] [] ?_
    refine wp_ret ?_
    cases h
    show fnOut _ _ _ _ = _
    kernel_rfl
  refine wp_condF rfl ?_
  refine wp_skip ?_
  refine wp_seq ?_
  refine reg_in ?_
  refine callZ (as0 := []) (ids := []) (by as_aux_lemma => kernel_rfl) bodyB_33 msnap_nil (fun x5 q6 => D33_ok  x5 q6) h (fun x5 q6 h => ?_)
  refine sl false [] [] false rfl ?_
  refine sz 1 3 ?_
  refine reg_end rfl ?_
  refine wp_seq ?_
  refine reg_in ?_
  refine sgz 1 1 (S := ⟨[(0, vB false), (36, vB x1), (37, vB false), (38, .agg [vI x5.Grain, vI x5.Count, vI x5.One, .ref 0 0 x5.Rows.length]), (1, .ptr 1 0 0), (40, .agg [vI x5.Grain, vI x5.Count, vI x5.One, .ref 0 0 x5.Rows.length])], [oR false 1 (eL true eI) x5.Rows, oX false false 4 (.agg [vI x5.Grain, vI x5.Count, vI x5.One, .ref 0 0 x5.Rows.length])], 275⟩) ?_
  refine callZ (as0 := [.agg [vI x5.Grain, vI x5.Count, vI x5.One, .ref 0 0 x5.Rows.length], vI 0, vI 0]) (ids := [0]) (by as_aux_lemma => kernel_rfl) bodyB_26 (msnap_cons (snap_agg (msnap_cons rfl (msnap_cons rfl (msnap_cons rfl (msnap_cons (snap_full rfl) msnap_nil (by rfl)) (by rfl)) (by rfl)) (by rfl))) (msnap_cons rfl (msnap_cons rfl msnap_nil (by rfl)) (by rfl)) (by rfl)) (fun x7 q8 => D26_ok x5 0 0 x7 q8) h (fun x7 q8 h => ?_)
  refine sz 5 7 ?_
  refine reg_end rfl ?_
  refine wp_seq ?_
  refine wg [1, 2, 3] [1, 2, 0] ?_
  refine reg_in ?_
  refine sgz 1 1 (S := ⟨[(1, .ptr 0 0 0), (2, .ref 1 0 x7.1.length), (3, vI x7.2), (45, .agg [vI x5.Grain, vI x5.Count, vI x5.One, .ref 2 0 x5.Rows.length])], [oX false false 4 (.agg [vI x5.Grain, vI x5.Count, vI x5.One, .ref 2 0 x5.Rows.length]), oR true 2 eTapi_Q x7.1, oR false 1 (eL true eI) x5.Rows], 275⟩) ?_
  refine callZ (as0 := [.agg [vI x5.Grain, vI x5.Count, vI x5.One, .ref 2 0 x5.Rows.length], vI 0, vI 0, vI 1]) (ids := [2]) (by as_aux_lemma => kernel_rfl) bodyB_21 (msnap_cons (snap_agg (msnap_cons rfl (msnap_cons rfl (msnap_cons rfl (msnap_cons (snap_full rfl) msnap_nil (by rfl)) (by rfl)) (by rfl)) (by rfl))) (msnap_cons rfl (msnap_cons rfl (msnap_cons rfl msnap_nil (by rfl)) (by rfl)) (by rfl)) (by rfl)) (fun x9 q10 => D21_ok x5 0 0 1 x9 q10) h (fun x9 q10 h => ?_)
  refine sz 5 7 ?_
  refine reg_end rfl ?_
  refine wp_seq ?_
  refine wg [1, 2, 3, 4, 5] [0, 1, 3, 2] ?_
  refine reg_in ?_
  refine sgz 1 1 (S := ⟨[(1, .ptr 0 0 0), (2, .ref 1 0 x7.1.length), (3, vI x7.2), (4, .ref 2 0 x9.1.length), (5, vI x9.2)] ++ [(50, .agg [vI x5.Grain, vI x5.Count, vI x5.One, .ref 3 0 x5.Rows.length])], [oX false false 4 (.agg [vI x5.Grain, vI x5.Count, vI x5.One, .ref 3 0 x5.Rows.length]), oR true 2 eTapi_Q x7.1, oR true 2 eTapi_Q x9.1, oR false 1 (eL true eI) x5.Rows], 275⟩) ?_
  refine callZ (as0 := [.agg [vI x5.Grain, vI x5.Count, vI x5.One, .ref 3 0 x5.Rows.length], vI 0, vI 1, vI 1]) (ids := [3]) (by as_aux_lemma => kernel_rfl) bodyB_24 (msnap_cons (snap_agg (msnap_cons rfl (msnap_cons rfl (msnap_cons rfl (msnap_cons (snap_full rfl) msnap_nil (by rfl)) (by rfl)) (by rfl)) (by rfl))) (msnap_cons rfl (msnap_cons rfl (msnap_cons rfl msnap_nil (by rfl)) (by rfl)) (by rfl)) (by rfl)) (fun x11 q12 => D24_ok x5 0 1 1 x11 q12) h (fun x11 q12 h => ?_)
  refine sz 6 8 ?_
  refine reg_end rfl ?_
  refine wp_seq ?_
  refine wg [1, 2, 3, 4, 5, 6, 7] [0, 1, 2, 4, 3] ?_
  refine reg_in ?_
  refine sgz 1 1 (S := ⟨[(1, .ptr 0 0 0), (2, .ref 1 0 x7.1.length), (3, vI x7.2), (4, .ref 2 0 x9.1.length), (5, vI x9.2), (6, .ptr 3 0 0), (7, vI x11.2)] ++ [(55, .agg [vI x5.Grain, vI x5.Count, vI x5.One, .ref 4 0 x5.Rows.length])], (D8_s7 x5 x7 x9 x11), 275⟩) ?_
  refine callZ (as0 := [.agg [vI x5.Grain, vI x5.Count, vI x5.One, .ref 4 0 x5.Rows.length], vI 1, vI 1, vI (-1)]) (ids := [4]) (by as_aux_lemma => kernel_rfl) bodyB_24 (msnap_cons (snap_agg (msnap_cons rfl (msnap_cons rfl (msnap_cons rfl (msnap_cons (snap_full rfl) msnap_nil (by rfl)) (by rfl)) (by rfl)) (by rfl))) (msnap_cons rfl (msnap_cons rfl (msnap_cons rfl msnap_nil (by rfl)) (by rfl)) (by rfl)) (by rfl)) (fun x13 q14 => D24_ok x5 1 1 (-1) x13 q14) h (fun x13 q14 h => ?_)
  refine sz 6 8 ?_
  refine reg_end rfl ?_
  refine wp_seq ?_
  refine wg [1, 2, 3, 4, 5, 6, 7, 9] [0, 1, 2, 3, 4] ?_
  refine reg_in ?_
  refine sgz 1 1 (S := ⟨[(1, .ptr 0 0 0), (2, .ref 1 0 x7.1.length), (3, vI x7.2), (4, .ref 2 0 x9.1.length), (5, vI x9.2), (6, .ptr 3 0 0), (7, vI x11.2), (9, vI x13.2)] ++ [(60, .agg [vI x5.Grain, vI x5.Count, vI x5.One, .ref 4 0 x5.Rows.length])], (D8_s7 x5 x7 x9 x11), 275⟩) ?_
  refine callZ (as0 := [.agg [vI x5.Grain, vI x5.Count, vI x5.One, .ref 4 0 x5.Rows.length], vI 2, vI 0, vI 1]) (ids := [4]) (by as_aux_lemma => kernel_rfl) bodyB_21 (msnap_cons (snap_agg (msnap_cons rfl (msnap_cons rfl (msnap_cons rfl (msnap_cons (snap_full rfl) msnap_nil (by rfl)) (by rfl)) (by rfl)) (by rfl))) (msnap_cons rfl (msnap_cons rfl (msnap_cons rfl msnap_nil (by rfl)) (by rfl)) (by rfl)) (by rfl)) (fun x15 q16 => D21_ok x5 2 0 1 x15 q16) h (fun x15 q16 h => ?_)
  refine sz 5 7 ?_
  refine reg_end rfl ?_
  refine wp_seq ?_
  refine wg [1, 2, 3, 4, 5, 6, 7, 9, 11] [0, 1, 2, 3, 4] ?_
  refine reg_in ?_
  refine sgz 1 1 (S := ⟨[(1, .ptr 0 0 0), (2, .ref 1 0 x7.1.length), (3, vI x7.2), (4, .ref 2 0 x9.1.length), (5, vI x9.2), (6, .ptr 3 0 0), (7, vI x11.2), (9, vI x13.2), (11, vI x15.2)] ++ [(65, .agg [vI x5.Grain, vI x5.Count, vI x5.One, .ref 4 0 x5.Rows.length])], (D8_s7 x5 x7 x9 x11), 275⟩) ?_
  refine callZ (as0 := [.agg [vI x5.Grain, vI x5.Count, vI x5.One, .ref 4 0 x5.Rows.length], vI 2, vI 1, vI (-1)]) (ids := [4]) (by as_aux_lemma => kernel_rfl) bodyB_19 (msnap_cons (snap_agg (msnap_cons rfl (msnap_cons rfl (msnap_cons rfl (msnap_cons (snap_full rfl) msnap_nil (by rfl)) (by rfl)) (by rfl)) (by rfl))) (msnap_cons rfl (msnap_cons rfl (msnap_cons rfl msnap_nil (by rfl)) (by rfl)) (by rfl)) (by rfl)) (fun x17 q18 => D19_ok x5 2 1 (-1) x17 q18) h (fun x17 q18 h => ?_)
  refine sz 6 8 ?_
  refine reg_end rfl ?_
  refine wp_seq ?_
  refine wg [1, 2, 3, 4, 5, 6, 7, 9, 11, 13] [0, 1, 2, 3, 4] ?_
  refine reg_in ?_
  refine sgz 1 1 (S := ⟨[(1, .ptr 0 0 0), (2, .ref 1 0 x7.1.length), (3, vI x7.2), (4, .ref 2 0 x9.1.length), (5, vI x9.2), (6, .ptr 3 0 0), (7, vI x11.2), (9, vI x13.2), (11, vI x15.2), (13, vI x17.2)] ++ [(70, .agg [vI x5.Grain, vI x5.Count, vI x5.One, .ref 4 0 x5.Rows.length])], (D8_s7 x5 x7 x9 x11), 275⟩) ?_
  refine callZ (as0 := [.agg [vI x5.Grain, vI x5.Count, vI x5.One, .ref 4 0 x5.Rows.length], vI (-1), vI 1, vI (-1)]) (ids := [4]) (by as_aux_lemma => kernel_rfl) bodyB_19 (msnap_cons (snap_agg (msnap_cons rfl (msnap_cons rfl (msnap_cons rfl (msnap_cons (snap_full rfl) msnap_nil (by rfl)) (by rfl)) (by rfl)) (by rfl))) (msnap_cons rfl (msnap_cons rfl (msnap_cons rfl msnap_nil (by rfl)) (by rfl)) (by rfl)) (by rfl)) (fun x19 q20 => D19_ok x5 (-1) 1 (-1) x19 q20) h (fun x19 q20 h => ?_)
  refine sz 6 8 ?_
  refine reg_end rfl ?_
  refine wp_seq ?_
  refine wg [1, 2, 3, 4, 5, 6, 7, 9, 11, 13, 15] [0, 1, 2, 3, 4] ?_
  refine reg_in ?_
  refine sgz 1 1 (S := ⟨[(1, .ptr 0 0 0), (2, .ref 1 0 x7.1.length), (3, vI x7.2), (4, .ref 2 0 x9.1.length), (5, vI x9.2), (6, .ptr 3 0 0), (7, vI x11.2), (9, vI x13.2), (11, vI x15.2), (13, vI x17.2), (15, vI x19.2)] ++ [(75, .agg [vI x5.Grain, vI x5.Count, vI x5.One, .ref 4 0 x5.Rows.length])], (D8_s7 x5 x7 x9 x11), 275⟩) ?_
  refine callZ (as0 := [.agg [vI x5.Grain, vI x5.Count, vI x5.One, .ref 4 0 x5.Rows.length], vI 0, vI 0, vI 2]) (ids := [4]) (by as_aux_lemma => kernel_rfl) bodyB_19 (msnap_cons (snap_agg (msnap_cons rfl (msnap_cons rfl (msnap_cons rfl (msnap_cons (snap_full rfl) msnap_nil (by rfl)) (by rfl)) (by rfl)) (by rfl))) (msnap_cons rfl (msnap_cons rfl (msnap_cons rfl msnap_nil (by rfl)) (by rfl)) (by rfl)) (by rfl)) (fun x21 q22 => D19_ok x5 0 0 2 x21 q22) h (fun x21 q22 h => ?_)
  refine sz 6 8 ?_
  refine reg_end rfl ?_
  refine wp_seq ?_
  refine wg [1, 2, 3, 4, 5, 6, 7, 9, 11, 13, 15, 17] [0, 1, 2, 3, 4] ?_
  refine reg_in ?_
  refine sgz 1 1 (S := ⟨[(1, .ptr 0 0 0), (2, .ref 1 0 x7.1.length), (3, vI x7.2), (4, .ref 2 0 x9.1.length), (5, vI x9.2), (6, .ptr 3 0 0), (7, vI x11.2), (9, vI x13.2), (11, vI x15.2), (13, vI x17.2), (15, vI x19.2), (17, vI x21.2)] ++ [(80, .agg [vI x5.Grain, vI x5.Count, vI x5.One, .ref 4 0 x5.Rows.length])], (D8_s7 x5 x7 x9 x11), 275⟩) ?_
  refine callZ (as0 := [.agg [vI x5.Grain, vI x5.Count, vI x5.One, .ref 4 0 x5.Rows.length], vI 0, vI 0, vI (-2)]) (ids := [4]) (by as_aux_lemma => kernel_rfl) bodyB_19 (msnap_cons (snap_agg (msnap_cons rfl (msnap_cons rfl (msnap_cons rfl (msnap_cons (snap_full rfl) msnap_nil (by rfl)) (by rfl)) (by rfl)) (by rfl))) (msnap_cons rfl (msnap_cons rfl (msnap_cons rfl msnap_nil (by rfl)) (by rfl)) (by rfl)) (by rfl)) (fun x23 q24 => D19_ok x5 0 0 (-2) x23 q24) h (fun x23 q24 h => ?_)
  refine sz 6 8 ?_
  refine reg_end rfl ?_
  refine wp_seq ?_
  refine wg [1, 2, 3, 4, 5, 6, 7, 9, 11, 13, 15, 17, 19] [0, 1, 2, 3, 4] ?_
  refine reg_in ?_
  refine sgz 1 1 (S := ⟨[(1, .ptr 0 0 0), (2, .ref 1 0 x7.1.length), (3, vI x7.2), (4, .ref 2 0 x9.1.length), (5, vI x9.2), (6, .ptr 3 0 0), (7, vI x11.2), (9, vI x13.2), (11, vI x15.2), (13, vI x17.2), (15, vI x19.2), (17, vI x21.2), (19, vI x23.2)] ++ [(85, .agg [vI x5.Grain, vI x5.Count, vI x5.One, .ref 4 0 x5.Rows.length])], (D8_s7 x5 x7 x9 x11), 275⟩) ?_
  refine callZ (as0 := [.agg [vI x5.Grain, vI x5.Count, vI x5.One, .ref 4 0 x5.Rows.length], vI 4611686018427387904, vI 4611686018427387904]) (ids := [4]) (by as_aux_lemma => kernel_rfl) bodyB_26 (msnap_cons (snap_agg (msnap_cons rfl (msnap_cons rfl (msnap_cons rfl (msnap_cons (snap_full rfl) msnap_nil (by rfl)) (by rfl)) (by rfl)) (by rfl))) (msnap_cons rfl (msnap_cons rfl msnap_nil (by rfl)) (by rfl)) (by rfl)) (fun x25 q26 => D26_ok x5 4611686018427387904 4611686018427387904 x25 q26) h (fun x25 q26 h => ?_)
  refine sz 5 7 ?_
  refine reg_end rfl ?_
  refine wp_seq ?_
  refine wg [1, 2, 3, 4, 5, 6, 7, 9, 11, 13, 15, 17, 19, 21] [0, 1, 2, 3, 4] ?_
  refine reg_in ?_
  refine sgz 1 1 (S := ⟨[(1, .ptr 0 0 0), (2, .ref 1 0 x7.1.length), (3, vI x7.2), (4, .ref 2 0 x9.1.length), (5, vI x9.2), (6, .ptr 3 0 0), (7, vI x11.2), (9, vI x13.2), (11, vI x15.2), (13, vI x17.2), (15, vI x19.2), (17, vI x21.2), (19, vI x23.2), (21, vI x25.2)] ++ [(90, .agg [vI x5.Grain, vI x5.Count, vI x5.One, .ref 4 0 x5.Rows.length])], (D8_s7 x5 x7 x9 x11), 275⟩) ?_
  refine callZ (as0 := [.agg [vI x5.Grain, vI x5.Count, vI x5.One, .ref 4 0 x5.Rows.length]]) (ids := [4]) (by as_aux_lemma => kernel_rfl) bodyB_13 (msnap_cons (snap_agg (msnap_cons rfl (msnap_cons rfl (msnap_cons rfl (msnap_cons (snap_full rfl) msnap_nil (by rfl)) (by rfl)) (by rfl)) (by rfl))) msnap_nil (by rfl)) (fun x27 q28 => D13_ok x5 x27 q28) h (fun x27 q28 h => ?_)
  refine sz 3 5 ?_
  refine sl false [] [] false rfl ?_
  refine sz 2 8 ?_
  refine reg_end rfl ?_
  refine wp_seq ?_
  refine wg [1, 2, 3, 4, 5, 6, 7, 9, 11, 13, 15, 17, 19, 21, 22, 23] [0, 1, 2, 3, 6, 4, 5] ?_
  refine reg_in ?_
  refine sgz 1 1 (S := ⟨[(1, .ptr 0 0 0), (2, .ref 1 0 x7.1.length), (3, vI x7.2), (4, .ref 2 0 x9.1.length), (5, vI x9.2), (6, .ptr 3 0 0), (7, vI x11.2), (9, vI x13.2), (11, vI x15.2), (13, vI x17.2), (15, vI x19.2), (17, vI x21.2), (19, vI x23.2), (21, vI x25.2), (22, .ptr 4 0 0), (23, vI x27.2)] ++ [(95, .agg [vI x5.Grain, vI x5.Count, vI x5.One, .ref 5 0 x5.Rows.length])], [oX false false 4 (.agg [vI x5.Grain, vI x5.Count, vI x5.One, .ref 5 0 x5.Rows.length]), oR true 2 eTapi_Q x7.1, oR true 2 eTapi_Q x9.1, oX true true 2 (.agg [vI x11.1.N, vI x11.1.D]), oX false false 2 (.agg [vI x27.1.Grain, .ref 6 0 x27.1.Nodes.length]), .row false true true false 1 (List.map (eL true eI) x5.Rows), oR false 3 eTapi_Node x27.1.Nodes], 275⟩) ?_
  refine callZ (as0 := [.agg [vI x5.Grain, vI x5.Count, vI x5.One, .ref 5 0 x5.Rows.length], vI 2, vI 0, vI 1]) (ids := [5]) (by as_aux_lemma => kernel_rfl) bodyB_19 (msnap_cons (snap_agg (msnap_cons rfl (msnap_cons rfl (msnap_cons rfl (msnap_cons (snap_full rfl) msnap_nil (by rfl)) (by rfl)) (by rfl)) (by rfl))) (msnap_cons rfl (msnap_cons rfl (msnap_cons rfl msnap_nil (by rfl)) (by rfl)) (by rfl)) (by rfl)) (fun x29 q30 => D19_ok x5 2 0 1 x29 q30) h (fun x29 q30 h => ?_)
  refine sz 6 8 ?_
  refine reg_end rfl ?_
  refine wp_seq ?_
  refine wp_seq ?_
  refine wg [1, 2, 3, 4, 5, 6, 7, 9, 11, 13, 15, 17, 19, 21, 22, 23, 24, 25] [0, 1, 2, 3, 4, 7, 5, 6] ?_
  refine reg_in ?_
  refine sz 12 12 ?_
  refine sl false [] [] true rfl ?_
  refine sgz 2 15 (S := ⟨(D8_s19 x7 x9 x11 x13 x15 x17 x19 x21 x23 x25 x27 x29) ++ [(99, .agg [.int .u8 0, .int .u8 0, .int .u8 0, vI 21]), (100, .agg [.int .u8 0, .int .u8 0, .int .u8 0, vI 0]), (101, .agg [.int .u8 1, .int .u8 0, .int .u8 0, vI 3]), (102, .agg [.int .u8 1, .int .u8 0, .int .u8 0, vI (-1)]), (103, .agg [.int .u8 2, .int .u8 0, .int .u8 0, vI 5]), (104, .agg [.int .u8 2, .int .u8 0, .int .u8 0, vI (-1)]), (105, .agg [.int .u8 3, .int .u8 0, .int .u8 0, vI (-4)]), (106, .agg [.int .u8 3, .int .u8 0, .int .u8 0, vI 3]), (107, .agg [.int .u8 4, .int .u8 0, .int .u8 0, vI 0]), (108, .agg [.int .u8 5, .int .u8 0, .int .u8 0, vI 0]), (109, .agg [.int .u8 6, .int .u8 0, .int .u8 0, vI 0]), (110, .agg [.int .u8 3, .int .u8 1, .int .u8 0, vI 4611686018427387904])] ++ [(111, .ref 8 0 12), (112, vI 12), (113, vI 0)], [oX false false 4 (.agg [vI x5.Grain, vI x5.Count, vI x5.One, .ref 6 0 x5.Rows.length]), oR true 2 eTapi_Q x7.1, oR true 2 eTapi_Q x9.1, oX true true 2 (.agg [vI x11.1.N, vI x11.1.D]), oX false false 2 (.agg [vI x27.1.Grain, .ref 7 0 x27.1.Nodes.length]), oX true true 2 (.agg [vI x29.1.N, vI x29.1.D]), .row false true true false 1 (List.map (eL true eI) x5.Rows), oR false 3 eTapi_Node x27.1.Nodes, .row false false true true 4 [.agg [.int .u8 0, .int .u8 0, .int .u8 0, vI 21], .agg [.int .u8 0, .int .u8 0, .int .u8 0, vI 0], .agg [.int .u8 1, .int .u8 0, .int .u8 0, vI 3], .agg [.int .u8 1, .int .u8 0, .int .u8 0, vI (-1)], .agg [.int .u8 2, .int .u8 0, .int .u8 0, vI 5], .agg [.int .u8 2, .int .u8 0, .int .u8 0, vI (-1)], .agg [.int .u8 3, .int .u8 0, .int .u8 0, vI (-4)], .agg [.int .u8 3, .int .u8 0, .int .u8 0, vI 3], .agg [.int .u8 4, .int .u8 0, .int .u8 0, vI 0], .agg [.int .u8 5, .int .u8 0, .int .u8 0, vI 0], .agg [.int .u8 6, .int .u8 0, .int .u8 0, vI 0], .agg [.int .u8 3, .int .u8 1, .int .u8 0, vI 4611686018427387904]]], 275⟩) ?_
  refine reg_end rfl ?_
  refine wp_block ?_
  refine wp_while (σ := Int) (ρ := (Unit ⊕ Unit)) (n := fuel) (body := D8_b0 x5) (I := fun s31 => ⟨(D8_s24 x7 x9 x11 x13 x15 x17 x19 x21 x23 x25 x27 x29 s31), (D8_s25 x5 x7 x9 x11 x27 x29), 275⟩) (Ex := fun x out => out = match x with | .inl v => .go (.ret) ⟨[(0, vB false)], [], 275⟩ | .inr v => .go (.exit 0) ⟨(D8_s26 x7 x9 x11 x13 x15 x17 x19 x21 x23 x25 x27 x29), (D8_s27 x7 x9 x11 x27 x29), 275⟩) 0 (wk_gc (live := [1, 2, 3, 4, 5, 6, 7, 9, 11, 13, 15, 17, 19, 21, 22, 23, 24, 25, 111, 112, 113]) (keep := [0, 1, 2, 3, 4, 5, 8, 6, 7]) (st' := ⟨(D8_s19 x7 x9 x11 x13 x15 x17 x19 x21 x23 x25 x27 x29) ++ [(111, .ref 6 0 (([(Tharuspexref14_Bend.mk 0 0 0 21), (Tharuspexref14_Bend.mk 0 0 0 0), (Tharuspexref14_Bend.mk 1 0 0 3), (Tharuspexref14_Bend.mk 1 0 0 (-1)), (Tharuspexref14_Bend.mk 2 0 0 5), (Tharuspexref14_Bend.mk 2 0 0 (-1)), (Tharuspexref14_Bend.mk 3 0 0 (-4)), (Tharuspexref14_Bend.mk 3 0 0 3), (Tharuspexref14_Bend.mk 4 0 0 0), (Tharuspexref14_Bend.mk 5 0 0 0), (Tharuspexref14_Bend.mk 6 0 0 0), (Tharuspexref14_Bend.mk 3 1 0 4611686018427387904)] : (List Tharuspexref14_Bend)).length)), (112, vI 12), (113, vI 0)], (D8_s25 x5 x7 x9 x11 x27 x29), 275⟩) (by as_aux_lemma => kernel_rfl)) h ?_ ?_
  · intro s31 o h
    unfold D8_b0 at h
    refine sq ?_
    refine wp_seq ?_
    refine wbr (S := fun b32 => ⟨(D8_s24 x7 x9 x11 x13 x15 x17 x19 x21 x23 x25 x27 x29 s31) ++ [(114, vB b32)], (D8_s25 x5 x7 x9 x11 x27 x29), 275⟩) h (fun q33 h => ?_) (fun q33 h => ?_)
    · refine wp_condT rfl ?_
      refine wp_skip ?_
      refine wp_seq ?_
      refine wp_block ?_
      refine wp_seq ?_
      refine reg_in ?_
      refine bind_elim h (fun a34 q35 h => ?_)
      refine idxR' (enc := eTharuspexref14_Bend) (l := ([(Tharuspexref14_Bend.mk 0 0 0 21), (Tharuspexref14_Bend.mk 0 0 0 0), (Tharuspexref14_Bend.mk 1 0 0 3), (Tharuspexref14_Bend.mk 1 0 0 (-1)), (Tharuspexref14_Bend.mk 2 0 0 5), (Tharuspexref14_Bend.mk 2 0 0 (-1)), (Tharuspexref14_Bend.mk 3 0 0 (-4)), (Tharuspexref14_Bend.mk 3 0 0 3), (Tharuspexref14_Bend.mk 4 0 0 0), (Tharuspexref14_Bend.mk 5 0 0 0), (Tharuspexref14_Bend.mk 6 0 0 0), (Tharuspexref14_Bend.mk 3 1 0 4611686018427387904)] : (List Tharuspexref14_Bend))) (n := s31) (w := 4) (ob := 6) (a := a34) (S := ⟨(D8_s24 x7 x9 x11 x13 x15 x17 x19 x21 x23 x25 x27 x29 s31) ++ [(114, vB true), (115, .ptr 6 (Int.toNat s31) 0)], (D8_s25 x5 x7 x9 x11 x27 x29), 275⟩) (by as_aux_lemma => kernel_rfl) rfl (by as_aux_lemma => kernel_rfl) q35 ?_
      refine loadR (enc := eTharuspexref14_Bend) (l := ([(Tharuspexref14_Bend.mk 0 0 0 21), (Tharuspexref14_Bend.mk 0 0 0 0), (Tharuspexref14_Bend.mk 1 0 0 3), (Tharuspexref14_Bend.mk 1 0 0 (-1)), (Tharuspexref14_Bend.mk 2 0 0 5), (Tharuspexref14_Bend.mk 2 0 0 (-1)), (Tharuspexref14_Bend.mk 3 0 0 (-4)), (Tharuspexref14_Bend.mk 3 0 0 3), (Tharuspexref14_Bend.mk 4 0 0 0), (Tharuspexref14_Bend.mk 5 0 0 0), (Tharuspexref14_Bend.mk 6 0 0 0), (Tharuspexref14_Bend.mk 3 1 0 4611686018427387904)] : (List Tharuspexref14_Bend))) (n := s31) (ob := 6) (c := 0) (a := a34) (S := ⟨(D8_s24 x7 x9 x11 x13 x15 x17 x19 x21 x23 x25 x27 x29 s31) ++ [(114, vB true), (115, .ptr 6 (Int.toNat s31) 0), (116, .agg [.int .u8 a34.What, .int .u8 a34.J, .int .u8 a34.At, vI a34.N])], (D8_s25 x5 x7 x9 x11 x27 x29), 275⟩) (by as_aux_lemma => kernel_rfl) rfl q35 (by as_aux_lemma => kernel_rfl) ?_
      refine sz 2 4 ?_
      refine reg_end rfl ?_
      refine wp_seq ?_
      refine reg_in ?_
      refine sgz 2 2 (S := ⟨(D8_s24 x7 x9 x11 x13 x15 x17 x19 x21 x23 x25 x27 x29 s31) ++ [(114, vB true), (115, .ptr 6 (Int.toNat s31) 0), (116, .agg [.int .u8 a34.What, .int .u8 a34.J, .int .u8 a34.At, vI a34.N]), (27, .ptr 9 0 0), (117, .agg [.int .u8 a34.What, .int .u8 a34.J, .int .u8 a34.At, vI a34.N]), (118, .agg [vI x5.Grain, vI x5.Count, vI x5.One, .ref 7 0 x5.Rows.length])], [oX false false 4 (.agg [vI x5.Grain, vI x5.Count, vI x5.One, .ref 7 0 x5.Rows.length]), oR true 2 eTapi_Q x7.1, oR true 2 eTapi_Q x9.1, oX true true 2 (.agg [vI x11.1.N, vI x11.1.D]), oX false false 2 (.agg [vI x27.1.Grain, .ref 8 0 x27.1.Nodes.length]), oX true true 2 (.agg [vI x29.1.N, vI x29.1.D]), oR true 4 eTharuspexref14_Bend ([(Tharuspexref14_Bend.mk 0 0 0 21), (Tharuspexref14_Bend.mk 0 0 0 0), (Tharuspexref14_Bend.mk 1 0 0 3), (Tharuspexref14_Bend.mk 1 0 0 (-1)), (Tharuspexref14_Bend.mk 2 0 0 5), (Tharuspexref14_Bend.mk 2 0 0 (-1)), (Tharuspexref14_Bend.mk 3 0 0 (-4)), (Tharuspexref14_Bend.mk 3 0 0 3), (Tharuspexref14_Bend.mk 4 0 0 0), (Tharuspexref14_Bend.mk 5 0 0 0), (Tharuspexref14_Bend.mk 6 0 0 0), (Tharuspexref14_Bend.mk 3 1 0 4611686018427387904)] : (List Tharuspexref14_Bend)), .row false true true false 1 (List.map (eL true eI) x5.Rows), oR false 3 eTapi_Node x27.1.Nodes, oX true true 4 (.agg [.int .u8 a34.What, .int .u8 a34.J, .int .u8 a34.At, vI a34.N])], 275⟩) ?_
      refine callZ (as0 := [.agg [.int .u8 a34.What, .int .u8 a34.J, .int .u8 a34.At, vI a34.N], .agg [vI x5.Grain, vI x5.Count, vI x5.One, .ref 7 0 x5.Rows.length]]) (ids := [7]) (by as_aux_lemma => kernel_rfl) bodyB_34 (msnap_cons (snap_agg (msnap_cons rfl (msnap_cons rfl (msnap_cons rfl (msnap_cons rfl msnap_nil (by rfl)) (by rfl)) (by rfl)) (by rfl))) (msnap_cons (snap_agg (msnap_cons rfl (msnap_cons rfl (msnap_cons rfl (msnap_cons (snap_full rfl) msnap_nil (by rfl)) (by rfl)) (by rfl)) (by rfl))) msnap_nil (by rfl)) (by rfl)) (fun x36 q37 => D34_ok a34 x5 x36 q37) h (fun x36 q37 h => ?_)
      refine callZ (as0 := [.agg [vI x36.Grain, vI x36.Count, vI x36.One, eL false (eL true eI) x36.Rows]]) (ids := []) (by as_aux_lemma => kernel_rfl) bodyB_14 (msnap_cons (snap_agg (msnap_cons rfl (msnap_cons rfl (msnap_cons rfl (msnap_cons rfl msnap_nil (by rfl)) (by rfl)) (by rfl)) (by rfl))) msnap_nil (by rfl)) (fun x38 q39 => D14_ok x36 x38 q39) h (fun x38 q39 h => ?_)
      refine sz 1 5 ?_
      refine reg_end rfl ?_
      refine wbr (S := fun b40 => ⟨(D8_s24 x7 x9 x11 x13 x15 x17 x19 x21 x23 x25 x27 x29 s31) ++ [(114, vB true), (115, .ptr 6 (Int.toNat s31) 0), (116, .agg [.int .u8 a34.What, .int .u8 a34.J, .int .u8 a34.At, vI a34.N]), (27, .ptr 9 0 0), (117, .agg [.int .u8 a34.What, .int .u8 a34.J, .int .u8 a34.At, vI a34.N]), (118, .agg [vI x5.Grain, vI x5.Count, vI x5.One, .ref 7 0 x5.Rows.length])] ++ [(119, .agg [vI x36.Grain, vI x36.Count, vI x36.One, eL false (eL true eI) x36.Rows]), (120, vI x38), (121, vB b40)], [oX false false 4 (.agg [vI x5.Grain, vI x5.Count, vI x5.One, .ref 7 0 x5.Rows.length]), oR true 2 eTapi_Q x7.1, oR true 2 eTapi_Q x9.1, oX true true 2 (.agg [vI x11.1.N, vI x11.1.D]), oX false false 2 (.agg [vI x27.1.Grain, .ref 8 0 x27.1.Nodes.length]), oX true true 2 (.agg [vI x29.1.N, vI x29.1.D]), oR true 4 eTharuspexref14_Bend ([(Tharuspexref14_Bend.mk 0 0 0 21), (Tharuspexref14_Bend.mk 0 0 0 0), (Tharuspexref14_Bend.mk 1 0 0 3), (Tharuspexref14_Bend.mk 1 0 0 (-1)), (Tharuspexref14_Bend.mk 2 0 0 5), (Tharuspexref14_Bend.mk 2 0 0 (-1)), (Tharuspexref14_Bend.mk 3 0 0 (-4)), (Tharuspexref14_Bend.mk 3 0 0 3), (Tharuspexref14_Bend.mk 4 0 0 0), (Tharuspexref14_Bend.mk 5 0 0 0), (Tharuspexref14_Bend.mk 6 0 0 0), (Tharuspexref14_Bend.mk 3 1 0 4611686018427387904)] : (List Tharuspexref14_Bend)), .row false true true false 1 (List.map (eL true eI) x5.Rows), oR false 3 eTapi_Node x27.1.Nodes, oX true true 4 (.agg [.int .u8 a34.What, .int .u8 a34.J, .int .u8 a34.At, vI a34.N])], 275⟩) h (fun q41 h => ?_) (fun q41 h => ?_)
      · refine wp_condT rfl ?_
        refine wp_seq ?_
        refine wg [] [] ?_
        refine rn ?_
        refine wgc [0] [] ⟨[(0, vB false)], [], 275⟩ ?_
        refine wp_ret ?_
        cases h
        exact ⟨rfl, rfl⟩
      refine wp_condF rfl ?_
      refine wp_skip ?_
      refine wg [1, 2, 3, 4, 5, 6, 7, 9, 11, 13, 15, 17, 19, 21, 22, 23, 24, 25, 111, 112, 113] [0, 1, 2, 3, 4, 5, 6, 7, 8] ?_
      refine rgN (S := ⟨(D8_s19 x7 x9 x11 x13 x15 x17 x19 x21 x23 x25 x27 x29) ++ [(111, .ref 6 0 (([(Tharuspexref14_Bend.mk 0 0 0 21), (Tharuspexref14_Bend.mk 0 0 0 0), (Tharuspexref14_Bend.mk 1 0 0 3), (Tharuspexref14_Bend.mk 1 0 0 (-1)), (Tharuspexref14_Bend.mk 2 0 0 5), (Tharuspexref14_Bend.mk 2 0 0 (-1)), (Tharuspexref14_Bend.mk 3 0 0 (-4)), (Tharuspexref14_Bend.mk 3 0 0 3), (Tharuspexref14_Bend.mk 4 0 0 0), (Tharuspexref14_Bend.mk 5 0 0 0), (Tharuspexref14_Bend.mk 6 0 0 0), (Tharuspexref14_Bend.mk 3 1 0 4611686018427387904)] : (List Tharuspexref14_Bend)).length)), (112, vI 12), (113, vI (IntKind.i64.wrap (s31 + 1)))] ++ [(122, vI (IntKind.i64.wrap (s31 + 1)))], (D8_s25 x5 x7 x9 x11 x27 x29), 275⟩) ?_
      cases h
      exact ⟨_, rfl, (wk_gc (live := [1, 2, 3, 4, 5, 6, 7, 9, 11, 13, 15, 17, 19, 21, 22, 23, 24, 25, 111, 112, 113]) (keep := [0, 1, 2, 3, 4, 5, 6, 7, 8]) (st' := ⟨(D8_s19 x7 x9 x11 x13 x15 x17 x19 x21 x23 x25 x27 x29) ++ [(111, .ref 6 0 (([(Tharuspexref14_Bend.mk 0 0 0 21), (Tharuspexref14_Bend.mk 0 0 0 0), (Tharuspexref14_Bend.mk 1 0 0 3), (Tharuspexref14_Bend.mk 1 0 0 (-1)), (Tharuspexref14_Bend.mk 2 0 0 5), (Tharuspexref14_Bend.mk 2 0 0 (-1)), (Tharuspexref14_Bend.mk 3 0 0 (-4)), (Tharuspexref14_Bend.mk 3 0 0 3), (Tharuspexref14_Bend.mk 4 0 0 0), (Tharuspexref14_Bend.mk 5 0 0 0), (Tharuspexref14_Bend.mk 6 0 0 0), (Tharuspexref14_Bend.mk 3 1 0 4611686018427387904)] : (List Tharuspexref14_Bend)).length)), (112, vI 12), (113, vI (IntKind.i64.wrap (s31 + 1)))], (D8_s25 x5 x7 x9 x11 x27 x29), 275⟩) (by as_aux_lemma => kernel_rfl))⟩
    refine wp_condF rfl ?_
    refine wgc [2, 3, 4, 5, 6, 7, 9, 11, 13, 15, 17, 19, 21, 22, 23, 24, 25] [1, 2, 3, 4, 5, 8] ⟨(D8_s26 x7 x9 x11 x13 x15 x17 x19 x21 x23 x25 x27 x29), (D8_s27 x7 x9 x11 x27 x29), 275⟩ ?_
    refine wp_exit ?_
    cases h
    exact ⟨rfl, rfl⟩
  intro x42 h out hx
  subst hx
  rcases x42 with x43 | x44
  · dsimp only at h ⊢
    cases h
    show fnOut _ _ _ _ = _
    kernel_rfl
  · dsimp only at h ⊢
    refine wp_seq ?_
    refine reg_in ?_
    refine sz 1 1 ?_
    refine sl false [] [] false rfl ?_
    refine sz 1 3 ?_
    refine reg_end rfl ?_
    refine wp_seq ?_
    refine sqN (S := ⟨(D8_s26 x7 x9 x11 x13 x15 x17 x19 x21 x23 x25 x27 x29) ++ [(123, .agg [vI 20, vI 10, vI 10, .nils]), (28, .ptr 6 0 0), (124, vI 0)], [oR true 2 eTapi_Q x7.1, oR true 2 eTapi_Q x9.1, oX true true 2 (.agg [vI x11.1.N, vI x11.1.D]), oX false false 2 (.agg [vI x27.1.Grain, .ref 5 0 x27.1.Nodes.length]), oX true true 2 (.agg [vI x29.1.N, vI x29.1.D]), oR false 3 eTapi_Node x27.1.Nodes, oX true false 4 (.agg [vI 20, vI 10, vI 10, .nils])], 275⟩) ?_
    refine wp_block ?_
    refine wp_while (σ := (Int × (List (List Int)))) (ρ := (List (List Int))) (n := fuel) (body := D8_b1) (I := fun s45 => ⟨(D8_s39 x7 x9 x11 x13 x15 x17 x19 x21 x23 x25 x27 x29 s45), (D8_s42 x7 x9 x11 x27 x29 s45), 275⟩) (Ex := fun v out => out = .go (.exit 2) ⟨(D8_s41 x7 x9 x11 x13 x15 x17 x19 x21 x23 x25 x27 x29), [oR true 2 eTapi_Q x7.1, oR true 2 eTapi_Q x9.1, oX true true 2 (.agg [vI x11.1.N, vI x11.1.D]), oX false false 2 (.agg [vI x27.1.Grain, .ref 6 0 x27.1.Nodes.length]), oX true true 2 (.agg [vI x29.1.N, vI x29.1.D]), oX false false 4 (.agg [vI 20, vI 10, vI 10, .ref 7 0 v.length]), oR false 3 eTapi_Node x27.1.Nodes, oR false 1 (eL true eI) v], 275⟩) (0, ([] : (List (List Int)))) (wk_trans (wk_gc (live := [2, 3, 4, 5, 6, 7, 9, 11, 13, 15, 17, 19, 21, 22, 23, 24, 25, 28, 124]) (keep := [0, 1, 2, 3, 4, 6, 5]) (st' := ⟨(D8_s34 x7 x9 x11 x13 x15 x17 x19 x21 x23 x25 x27 x29), [oR true 2 eTapi_Q x7.1, oR true 2 eTapi_Q x9.1, oX true true 2 (.agg [vI x11.1.N, vI x11.1.D]), oX false false 2 (.agg [vI x27.1.Grain, .ref 6 0 x27.1.Nodes.length]), oX true true 2 (.agg [vI x29.1.N, vI x29.1.D]), oX true false 4 (.agg [vI 20, vI 10, vI 10, .nils]), oR false 3 eTapi_Node x27.1.Nodes], 275⟩) (by as_aux_lemma => kernel_rfl)) (wk_trans (wk_nilO 5 0 3 1 true false (st' := ⟨(D8_s34 x7 x9 x11 x13 x15 x17 x19 x21 x23 x25 x27 x29), [oR true 2 eTapi_Q x7.1, oR true 2 eTapi_Q x9.1, oX true true 2 (.agg [vI x11.1.N, vI x11.1.D]), oX false false 2 (.agg [vI x27.1.Grain, .ref 6 0 x27.1.Nodes.length]), oX true true 2 (.agg [vI x29.1.N, vI x29.1.D]), oX false false 4 (.agg [vI 20, vI 10, vI 10, .ref 7 0 0]), oR false 3 eTapi_Node x27.1.Nodes, .row false false true false 1 []], 275⟩) (by as_aux_lemma => kernel_rfl)) (wk_gc (live := [2, 3, 4, 5, 6, 7, 9, 11, 13, 15, 17, 19, 21, 22, 23, 24, 25, 28, 124]) (keep := [0, 1, 2, 3, 4, 5, 6, 7]) (st' := ⟨(D8_s34 x7 x9 x11 x13 x15 x17 x19 x21 x23 x25 x27 x29), [oR true 2 eTapi_Q x7.1, oR true 2 eTapi_Q x9.1, oX true true 2 (.agg [vI x11.1.N, vI x11.1.D]), oX false false 2 (.agg [vI x27.1.Grain, .ref 6 0 x27.1.Nodes.length]), oX true true 2 (.agg [vI x29.1.N, vI x29.1.D]), oX false false 4 (.agg [vI 20, vI 10, vI 10, .ref 7 0 (([] : (List (List Int))).length)]), oR false 3 eTapi_Node x27.1.Nodes, oR false 1 (eL true eI) ([] : (List (List Int)))], 275⟩) (by as_aux_lemma => kernel_rfl)))) h ?_ ?_
    · intro s45 o h
      unfold D8_b1 at h
      refine sq ?_
      refine wp_seq ?_
      refine wbr (S := fun b46 => ⟨(D8_s39 x7 x9 x11 x13 x15 x17 x19 x21 x23 x25 x27 x29 s45) ++ [(125, vB b46)], (D8_s42 x7 x9 x11 x27 x29 s45), 275⟩) h (fun q47 h => ?_) (fun q47 h => ?_)
      · refine wp_condT rfl ?_
        refine wp_skip ?_
        refine wp_seq ?_
        refine wp_block ?_
        refine reg_in ?_
        refine sz 2 2 ?_
        refine sgL false [] [] true (S := ⟨(D8_s39 x7 x9 x11 x13 x15 x17 x19 x21 x23 x25 x27 x29 s45) ++ [(125, vB true), (126, .ptr 5 0 3), (127, .ref 7 0 s45.2.length), (128, .ref 8 0 2)], [oR true 2 eTapi_Q x7.1, oR true 2 eTapi_Q x9.1, oX true true 2 (.agg [vI x11.1.N, vI x11.1.D]), oX false false 2 (.agg [vI x27.1.Grain, .ref 6 0 x27.1.Nodes.length]), oX true true 2 (.agg [vI x29.1.N, vI x29.1.D]), oX false false 4 (.agg [vI 20, vI 10, vI 10, .ref 7 0 s45.2.length]), oR false 3 eTapi_Node x27.1.Nodes, oR false 1 (eL true eI) s45.2, .row false false true true 1 [vI 5, vI 15]], 275⟩) (by as_aux_lemma => kernel_rfl) ?_
        refine bsR (parts := [(0, .lst true [vI 5, vI 15])]) (ids := [8]) (es := [(8, .row false true true true 1 [vI 5, vI 15]), (9, .row false false true (List.all [.lst true [vI 5, vI 15]] AV.scs) 1 [.lst true [vI 5, vI 15]])]) (S := ⟨(D8_s39 x7 x9 x11 x13 x15 x17 x19 x21 x23 x25 x27 x29 s45) ++ [(125, vB true), (126, .ptr 5 0 3), (127, .ref 7 0 s45.2.length), (128, .ref 8 0 2), (129, .ref 9 0 1)], [oR true 2 eTapi_Q x7.1, oR true 2 eTapi_Q x9.1, oX true true 2 (.agg [vI x11.1.N, vI x11.1.D]), oX false false 2 (.agg [vI x27.1.Grain, .ref 6 0 x27.1.Nodes.length]), oX true true 2 (.agg [vI x29.1.N, vI x29.1.D]), oX false false 4 (.agg [vI 20, vI 10, vI 10, .ref 7 0 s45.2.length]), oR false 3 eTapi_Node x27.1.Nodes, oR false 1 (eL true eI) s45.2, .row false true true true 1 [vI 5, vI 15], .row false false true false 1 [.lst true [vI 5, vI 15]]], 275⟩) [.lst true] false rfl (sparts_snap rfl rfl sparts_nil (by rfl)) (by as_aux_lemma => kernel_rfl) ?_
        refine appR (enc := (eL true eI)) (l := s45.2) (m := ([[5, 15]] : (List (List Int)))) (w := 1) (bytes := 24) (ob := 7) (nr := true) (fl := false) (nr' := true) (fl' := false) (b := .ref 9 0 1) (rds := [9]) (S := ⟨(D8_s39 x7 x9 x11 x13 x15 x17 x19 x21 x23 x25 x27 x29 s45) ++ [(125, vB true), (126, .ptr 5 0 3), (127, .ref 7 0 s45.2.length), (128, .ref 8 0 2), (129, .ref 9 0 1), (130, .ref 10 0 ((s45.2 ++ ([[5, 15]] : (List (List Int)))).length))], [oR true 2 eTapi_Q x7.1, oR true 2 eTapi_Q x9.1, oX true true 2 (.agg [vI x11.1.N, vI x11.1.D]), oX false false 2 (.agg [vI x27.1.Grain, .ref 6 0 x27.1.Nodes.length]), oX true true 2 (.agg [vI x29.1.N, vI x29.1.D]), oX false false 4 (.agg [vI 20, vI 10, vI 10, .ref 7 0 s45.2.length]), oR false 3 eTapi_Node x27.1.Nodes, .dead, .row false true true true 1 [vI 5, vI 15], .row false false true false 1 [.lst true [vI 5, vI 15]], oR false 1 (eL true eI) (s45.2 ++ ([[5, 15]] : (List (List Int))))], 275⟩) false (by as_aux_lemma => kernel_rfl) rfl (by as_aux_lemma => kernel_rfl) rfl (by as_aux_lemma => kernel_rfl) (by as_aux_lemma => kernel_rfl) h (fun h => ?_)
        refine sz 2 7 ?_
        refine reg_end rfl ?_
        refine wg [2, 3, 4, 5, 6, 7, 9, 11, 13, 15, 17, 19, 21, 22, 23, 24, 25, 28, 124] [0, 1, 2, 3, 4, 5, 6, 10] ?_
        refine rgN (S := ⟨(D8_s41 x7 x9 x11 x13 x15 x17 x19 x21 x23 x25 x27 x29) ++ [(124, vI (IntKind.i64.wrap (s45.1 + 1))), (132, vI (IntKind.i64.wrap (s45.1 + 1)))], (D8_s40 x7 x9 x11 x27 x29 s45), 275⟩) ?_
        cases h
        exact ⟨_, rfl, (wk_gc (live := [2, 3, 4, 5, 6, 7, 9, 11, 13, 15, 17, 19, 21, 22, 23, 24, 25, 28, 124]) (keep := [0, 1, 2, 3, 4, 5, 6, 7]) (st' := ⟨(D8_s41 x7 x9 x11 x13 x15 x17 x19 x21 x23 x25 x27 x29) ++ [(124, vI (IntKind.i64.wrap (s45.1 + 1)))], (D8_s40 x7 x9 x11 x27 x29 s45), 275⟩) (by as_aux_lemma => kernel_rfl))⟩
      refine wp_condF rfl ?_
      refine wgc [2, 3, 4, 5, 6, 7, 9, 11, 13, 15, 17, 19, 21, 22, 23, 24, 25, 28] [0, 1, 2, 3, 4, 5, 6, 7] ⟨(D8_s41 x7 x9 x11 x13 x15 x17 x19 x21 x23 x25 x27 x29), (D8_s42 x7 x9 x11 x27 x29 s45), 275⟩ ?_
      refine wp_exit ?_
      cases h
      exact ⟨rfl, rfl⟩
    intro x49 h out hx
    subst hx
    refine wp_seq ?_
    refine reg_in ?_
    refine sgz 1 1 (S := ⟨(D8_s41 x7 x9 x11 x13 x15 x17 x19 x21 x23 x25 x27 x29) ++ [(134, .agg [vI 20, vI 10, vI 10, .ref 7 0 x49.length])], [oR true 2 eTapi_Q x7.1, oR true 2 eTapi_Q x9.1, oX true true 2 (.agg [vI x11.1.N, vI x11.1.D]), oX false false 2 (.agg [vI x27.1.Grain, .ref 6 0 x27.1.Nodes.length]), oX true true 2 (.agg [vI x29.1.N, vI x29.1.D]), oX false false 4 (.agg [vI 20, vI 10, vI 10, .ref 7 0 x49.length]), oR false 3 eTapi_Node x27.1.Nodes, oR false 1 (eL true eI) x49], 275⟩) ?_
    refine callZ (as0 := [.agg [vI 20, vI 10, vI 10, .ref 7 0 x49.length]]) (ids := [7]) (by as_aux_lemma => kernel_rfl) bodyB_13 (msnap_cons (snap_agg (msnap_cons rfl (msnap_cons rfl (msnap_cons rfl (msnap_cons (snap_full rfl) msnap_nil (by rfl)) (by rfl)) (by rfl)) (by rfl))) msnap_nil (by rfl)) (fun x50 q51 => D13_ok (Tapi_Lift.mk 20 10 10 x49) x50 q51) h (fun x50 q51 h => ?_)
    refine sz 3 5 ?_
    refine sl false [] [] false rfl ?_
    refine sz 2 8 ?_
    refine reg_end rfl ?_
    refine wp_seq ?_
    refine wg [2, 3, 4, 5, 6, 7, 9, 11, 13, 15, 17, 19, 21, 22, 23, 24, 25, 28, 30] [0, 1, 2, 3, 4, 5, 6, 7] ?_
    refine reg_in ?_
    refine sgz 1 1 (S := ⟨[(2, .ref 0 0 x7.1.length), (3, vI x7.2), (4, .ref 1 0 x9.1.length), (5, vI x9.2), (6, .ptr 2 0 0), (7, vI x11.2), (9, vI x13.2), (11, vI x15.2), (13, vI x17.2), (15, vI x19.2), (17, vI x21.2), (19, vI x23.2), (21, vI x25.2), (22, .ptr 3 0 0), (23, vI x27.2), (24, .ptr 4 0 0), (25, vI x29.2), (28, .ptr 5 0 0), (30, vI x50.2)] ++ [(139, .agg [vI 20, vI 10, vI 10, .ref 7 0 x49.length])], [oR true 2 eTapi_Q x7.1, oR true 2 eTapi_Q x9.1, oX true true 2 (.agg [vI x11.1.N, vI x11.1.D]), oX false false 2 (.agg [vI x27.1.Grain, .ref 6 0 x27.1.Nodes.length]), oX true true 2 (.agg [vI x29.1.N, vI x29.1.D]), oX false false 4 (.agg [vI 20, vI 10, vI 10, .ref 7 0 x49.length]), oR false 3 eTapi_Node x27.1.Nodes, .row false true true false 1 (List.map (eL true eI) x49)], 275⟩) ?_
    refine callZ (as0 := [.agg [vI 20, vI 10, vI 10, .ref 7 0 x49.length], vI 10, vI 0, vI 0]) (ids := [7]) (by as_aux_lemma => kernel_rfl) bodyB_19 (msnap_cons (snap_agg (msnap_cons rfl (msnap_cons rfl (msnap_cons rfl (msnap_cons (snap_full rfl) msnap_nil (by rfl)) (by rfl)) (by rfl)) (by rfl))) (msnap_cons rfl (msnap_cons rfl (msnap_cons rfl msnap_nil (by rfl)) (by rfl)) (by rfl)) (by rfl)) (fun x52 q53 => D19_ok (Tapi_Lift.mk 20 10 10 x49) 10 0 0 x52 q53) h (fun x52 q53 h => ?_)
    refine sz 6 8 ?_
    refine reg_end rfl ?_
    refine wp_seq ?_
    refine wg [2, 3, 4, 5, 6, 7, 9, 11, 13, 15, 17, 19, 21, 22, 23, 24, 25, 28, 30, 31, 32] [0, 1, 2, 3, 4, 5, 8, 6, 7] ?_
    refine reg_in ?_
    refine sgz 1 1 (S := ⟨[(2, .ref 0 0 x7.1.length), (3, vI x7.2), (4, .ref 1 0 x9.1.length), (5, vI x9.2), (6, .ptr 2 0 0), (7, vI x11.2), (9, vI x13.2), (11, vI x15.2), (13, vI x17.2), (15, vI x19.2), (17, vI x21.2), (19, vI x23.2), (21, vI x25.2), (22, .ptr 3 0 0), (23, vI x27.2), (24, .ptr 4 0 0), (25, vI x29.2), (28, .ptr 5 0 0), (30, vI x50.2), (31, .ptr 6 0 0), (32, vI x52.2)] ++ [(144, .agg [vI 20, vI 10, vI 10, .ref 8 0 x49.length])], [oR true 2 eTapi_Q x7.1, oR true 2 eTapi_Q x9.1, oX true true 2 (.agg [vI x11.1.N, vI x11.1.D]), oX false false 2 (.agg [vI x27.1.Grain, .ref 7 0 x27.1.Nodes.length]), oX true true 2 (.agg [vI x29.1.N, vI x29.1.D]), oX false false 4 (.agg [vI 20, vI 10, vI 10, .ref 8 0 x49.length]), oX true true 2 (.agg [vI x52.1.N, vI x52.1.D]), oR false 3 eTapi_Node x27.1.Nodes, .row false true true false 1 (List.map (eL true eI) x49)], 275⟩) ?_
    refine callZ (as0 := [.agg [vI 20, vI 10, vI 10, .ref 8 0 x49.length], vI 0, vI 0, vI 1]) (ids := [8]) (by as_aux_lemma => kernel_rfl) bodyB_21 (msnap_cons (snap_agg (msnap_cons rfl (msnap_cons rfl (msnap_cons rfl (msnap_cons (snap_full rfl) msnap_nil (by rfl)) (by rfl)) (by rfl)) (by rfl))) (msnap_cons rfl (msnap_cons rfl (msnap_cons rfl msnap_nil (by rfl)) (by rfl)) (by rfl)) (by rfl)) (fun x54 q55 => D21_ok (Tapi_Lift.mk 20 10 10 x49) 0 0 1 x54 q55) h (fun x54 q55 h => ?_)
    refine sz 5 7 ?_
    refine reg_end rfl ?_
    refine wp_seq ?_
    refine wg [2, 3, 4, 5, 6, 7, 9, 11, 13, 15, 17, 19, 21, 22, 23, 24, 25, 30, 31, 32, 33, 34] [0, 1, 2, 3, 4, 6, 9, 7] ?_
    refine reg_in ?_
    refine sz 3 3 ?_
    refine rbr (S := fun b56 => ⟨[(2, .ref 0 0 x7.1.length), (3, vI x7.2), (4, .ref 1 0 x9.1.length), (5, vI x9.2), (6, .ptr 2 0 0), (7, vI x11.2), (9, vI x13.2), (11, vI x15.2), (13, vI x17.2), (15, vI x19.2), (17, vI x21.2), (19, vI x23.2), (21, vI x25.2), (22, .ptr 3 0 0), (23, vI x27.2), (24, .ptr 4 0 0), (25, vI x29.2), (30, vI x50.2), (31, .ptr 5 0 0), (32, vI x52.2), (33, .ref 6 0 x54.1.length), (34, vI x54.2)] ++ [(148, vI x13.2), (149, vB b56), (150, vB b56)], (D8_s57 x7 x9 x11 x27 x29 x52 x54), 275⟩) h (fun q57 h => ?_) (fun q57 h => ?_)
    · refine sz 4 7 ?_
      refine rw_wk (wk_gc (live := [2, 3, 4, 5, 6, 7, 13, 15, 17, 19, 21, 22, 23, 24, 25, 30, 31, 32, 33, 34, 154]) (keep := [0, 1, 2, 3, 4, 5, 6, 7]) (st' := ⟨[(2, .ref 0 0 x7.1.length), (3, vI x7.2), (4, .ref 1 0 x9.1.length), (5, vI x9.2), (6, .ptr 2 0 0), (7, vI x11.2), (13, vI x17.2), (15, vI x19.2), (17, vI x21.2), (19, vI x23.2), (21, vI x25.2), (22, .ptr 3 0 0), (23, vI x27.2), (24, .ptr 4 0 0), (25, vI x29.2), (30, vI x50.2), (31, .ptr 5 0 0), (32, vI x52.2), (33, .ref 6 0 x54.1.length), (34, vI x54.2), (154, vB (x15.2 == 7))], (D8_s57 x7 x9 x11 x27 x29 x52 x54), 275⟩) (by as_aux_lemma => kernel_rfl)) ?_
      refine rbr (S := fun b58 => ⟨[(2, .ref 0 0 x7.1.length), (3, vI x7.2), (4, .ref 1 0 x9.1.length), (5, vI x9.2), (6, .ptr 2 0 0), (7, vI x11.2), (13, vI x17.2), (15, vI x19.2), (17, vI x21.2), (19, vI x23.2), (21, vI x25.2), (22, .ptr 3 0 0), (23, vI x27.2), (24, .ptr 4 0 0), (25, vI x29.2), (30, vI x50.2), (31, .ptr 5 0 0), (32, vI x52.2), (33, .ref 6 0 x54.1.length), (34, vI x54.2), (154, vB b58)], (D8_s57 x7 x9 x11 x27 x29 x52 x54), 275⟩) h (fun q59 h => ?_) (fun q59 h => ?_)
      · refine sz 4 11 ?_
        refine rw_wk (wk_gc (live := [2, 3, 4, 5, 6, 7, 15, 17, 19, 21, 22, 23, 24, 25, 30, 31, 32, 33, 34, 158]) (keep := [0, 1, 2, 3, 4, 5, 6, 7]) (st' := ⟨[(2, .ref 0 0 x7.1.length), (3, vI x7.2), (4, .ref 1 0 x9.1.length), (5, vI x9.2), (6, .ptr 2 0 0), (7, vI x11.2), (15, vI x19.2), (17, vI x21.2), (19, vI x23.2), (21, vI x25.2), (22, .ptr 3 0 0), (23, vI x27.2), (24, .ptr 4 0 0), (25, vI x29.2), (30, vI x50.2), (31, .ptr 5 0 0), (32, vI x52.2), (33, .ref 6 0 x54.1.length), (34, vI x54.2), (158, vB (x17.2 == 2))], (D8_s57 x7 x9 x11 x27 x29 x52 x54), 275⟩) (by as_aux_lemma => kernel_rfl)) ?_
        refine rbr (S := fun b60 => ⟨[(2, .ref 0 0 x7.1.length), (3, vI x7.2), (4, .ref 1 0 x9.1.length), (5, vI x9.2), (6, .ptr 2 0 0), (7, vI x11.2), (15, vI x19.2), (17, vI x21.2), (19, vI x23.2), (21, vI x25.2), (22, .ptr 3 0 0), (23, vI x27.2), (24, .ptr 4 0 0), (25, vI x29.2), (30, vI x50.2), (31, .ptr 5 0 0), (32, vI x52.2), (33, .ref 6 0 x54.1.length), (34, vI x54.2), (158, vB b60)], (D8_s57 x7 x9 x11 x27 x29 x52 x54), 275⟩) h (fun q61 h => ?_) (fun q61 h => ?_)
        · refine sz 4 15 ?_
          refine rw_wk (wk_gc (live := [2, 3, 4, 5, 6, 7, 17, 19, 21, 22, 23, 24, 25, 30, 31, 32, 33, 34, 162]) (keep := [0, 1, 2, 3, 4, 5, 6, 7]) (st' := ⟨[(2, .ref 0 0 x7.1.length), (3, vI x7.2), (4, .ref 1 0 x9.1.length), (5, vI x9.2), (6, .ptr 2 0 0), (7, vI x11.2), (17, vI x21.2), (19, vI x23.2), (21, vI x25.2), (22, .ptr 3 0 0), (23, vI x27.2), (24, .ptr 4 0 0), (25, vI x29.2), (30, vI x50.2), (31, .ptr 5 0 0), (32, vI x52.2), (33, .ref 6 0 x54.1.length), (34, vI x54.2), (162, vB (x19.2 == 2))], (D8_s57 x7 x9 x11 x27 x29 x52 x54), 275⟩) (by as_aux_lemma => kernel_rfl)) ?_
          refine rbr (S := fun b62 => ⟨[(2, .ref 0 0 x7.1.length), (3, vI x7.2), (4, .ref 1 0 x9.1.length), (5, vI x9.2), (6, .ptr 2 0 0), (7, vI x11.2), (17, vI x21.2), (19, vI x23.2), (21, vI x25.2), (22, .ptr 3 0 0), (23, vI x27.2), (24, .ptr 4 0 0), (25, vI x29.2), (30, vI x50.2), (31, .ptr 5 0 0), (32, vI x52.2), (33, .ref 6 0 x54.1.length), (34, vI x54.2), (162, vB b62)], (D8_s57 x7 x9 x11 x27 x29 x52 x54), 275⟩) h (fun q63 h => ?_) (fun q63 h => ?_)
          · refine sz 4 19 ?_
            refine rw_wk (wk_gc (live := [2, 3, 4, 5, 6, 7, 19, 21, 22, 23, 24, 25, 30, 31, 32, 33, 34, 166]) (keep := [0, 1, 2, 3, 4, 5, 6, 7]) (st' := ⟨[(2, .ref 0 0 x7.1.length), (3, vI x7.2), (4, .ref 1 0 x9.1.length), (5, vI x9.2), (6, .ptr 2 0 0), (7, vI x11.2), (19, vI x23.2), (21, vI x25.2), (22, .ptr 3 0 0), (23, vI x27.2), (24, .ptr 4 0 0), (25, vI x29.2), (30, vI x50.2), (31, .ptr 5 0 0), (32, vI x52.2), (33, .ref 6 0 x54.1.length), (34, vI x54.2), (166, vB (x21.2 == 2))], (D8_s57 x7 x9 x11 x27 x29 x52 x54), 275⟩) (by as_aux_lemma => kernel_rfl)) ?_
            refine rbr (S := fun b64 => ⟨[(2, .ref 0 0 x7.1.length), (3, vI x7.2), (4, .ref 1 0 x9.1.length), (5, vI x9.2), (6, .ptr 2 0 0), (7, vI x11.2), (19, vI x23.2), (21, vI x25.2), (22, .ptr 3 0 0), (23, vI x27.2), (24, .ptr 4 0 0), (25, vI x29.2), (30, vI x50.2), (31, .ptr 5 0 0), (32, vI x52.2), (33, .ref 6 0 x54.1.length), (34, vI x54.2), (166, vB b64)], (D8_s57 x7 x9 x11 x27 x29 x52 x54), 275⟩) h (fun q65 h => ?_) (fun q65 h => ?_)
            · refine sz 4 23 ?_
              refine rw_wk (wk_gc (live := [2, 3, 4, 5, 6, 7, 21, 22, 23, 24, 25, 30, 31, 32, 33, 34, 170]) (keep := [0, 1, 2, 3, 4, 5, 6, 7]) (st' := ⟨[(2, .ref 0 0 x7.1.length), (3, vI x7.2), (4, .ref 1 0 x9.1.length), (5, vI x9.2), (6, .ptr 2 0 0), (7, vI x11.2), (21, vI x25.2), (22, .ptr 3 0 0), (23, vI x27.2), (24, .ptr 4 0 0), (25, vI x29.2), (30, vI x50.2), (31, .ptr 5 0 0), (32, vI x52.2), (33, .ref 6 0 x54.1.length), (34, vI x54.2), (170, vB (x23.2 == 2))], (D8_s57 x7 x9 x11 x27 x29 x52 x54), 275⟩) (by as_aux_lemma => kernel_rfl)) ?_
              refine rbr (S := fun b66 => ⟨[(2, .ref 0 0 x7.1.length), (3, vI x7.2), (4, .ref 1 0 x9.1.length), (5, vI x9.2), (6, .ptr 2 0 0), (7, vI x11.2), (21, vI x25.2), (22, .ptr 3 0 0), (23, vI x27.2), (24, .ptr 4 0 0), (25, vI x29.2), (30, vI x50.2), (31, .ptr 5 0 0), (32, vI x52.2), (33, .ref 6 0 x54.1.length), (34, vI x54.2), (170, vB b66)], (D8_s57 x7 x9 x11 x27 x29 x52 x54), 275⟩) h (fun q67 h => ?_) (fun q67 h => ?_)
              · refine sz 4 27 ?_
                refine rw_wk (wk_gc (live := [2, 3, 4, 5, 6, 7, 22, 23, 24, 25, 30, 31, 32, 33, 34, 174]) (keep := [0, 1, 2, 3, 4, 5, 6, 7]) (st' := ⟨[(2, .ref 0 0 x7.1.length), (3, vI x7.2), (4, .ref 1 0 x9.1.length), (5, vI x9.2), (6, .ptr 2 0 0), (7, vI x11.2), (22, .ptr 3 0 0), (23, vI x27.2), (24, .ptr 4 0 0), (25, vI x29.2), (30, vI x50.2), (31, .ptr 5 0 0), (32, vI x52.2), (33, .ref 6 0 x54.1.length), (34, vI x54.2), (174, vB (x25.2 == 2))], (D8_s57 x7 x9 x11 x27 x29 x52 x54), 275⟩) (by as_aux_lemma => kernel_rfl)) ?_
                refine rbr (S := fun b68 => ⟨[(2, .ref 0 0 x7.1.length), (3, vI x7.2), (4, .ref 1 0 x9.1.length), (5, vI x9.2), (6, .ptr 2 0 0), (7, vI x11.2), (22, .ptr 3 0 0), (23, vI x27.2), (24, .ptr 4 0 0), (25, vI x29.2), (30, vI x50.2), (31, .ptr 5 0 0), (32, vI x52.2), (33, .ref 6 0 x54.1.length), (34, vI x54.2), (174, vB b68)], (D8_s57 x7 x9 x11 x27 x29 x52 x54), 275⟩) h (fun q69 h => ?_) (fun q69 h => ?_)
                · refine sz 4 31 ?_
                  refine reg_end rfl ?_
                  refine wp_seq ?_
                  refine wg [2, 3, 4, 5, 6, 7, 22, 23, 24, 25, 31, 32, 33, 34, 35] [0, 1, 2, 3, 4, 5, 6, 7] ?_
                  refine rga hfol ?_
                  refine sy 2 2 ?_
                  refine rbr (S := fun b70 => ⟨[(2, .ref 0 0 x7.1.length), (3, vI x7.2), (4, .ref 1 0 x9.1.length), (5, vI x9.2), (6, .ptr 2 0 0), (7, vI x11.2), (22, .ptr 3 0 0), (23, vI x27.2), (24, .ptr 4 0 0), (25, vI x29.2), (31, .ptr 5 0 0), (32, vI x52.2), (33, .ref 6 0 x54.1.length), (34, vI x54.2), (35, vB b70), (178, vB b70), (179, vB b70)], (D8_s57 x7 x9 x11 x27 x29 x52 x54), 275⟩) h (fun q71 h => ?_) (fun q71 h => ?_)
                  · refine sy 4 6 ?_
                    refine rbr (S := fun b72 => ⟨[(2, .ref 0 0 x7.1.length), (3, vI x7.2), (4, .ref 1 0 x9.1.length), (5, vI x9.2), (6, .ptr 2 0 0), (7, vI x11.2), (22, .ptr 3 0 0), (23, vI x27.2), (24, .ptr 4 0 0), (25, vI x29.2), (31, .ptr 5 0 0), (32, vI x52.2), (33, .ref 6 0 x54.1.length), (34, vI x54.2), (35, vB true), (178, vB true), (179, vB true), (180, vI x7.2), (181, vB b72), (182, vB b72), (183, vB b72)], (D8_s57 x7 x9 x11 x27 x29 x52 x54), 275⟩) h (fun q73 h => ?_) (fun q73 h => ?_)
                    · refine sy 1 7 ?_
                      refine sgL false [] [] true (S := ⟨(D8_s71 x7 x9 x11 x27 x29 x52 x54) ++ [(185, .ref 8 0 2)], [oR true 2 eTapi_Q x7.1, oR true 2 eTapi_Q x9.1, oX true true 2 (.agg [vI x11.1.N, vI x11.1.D]), oX false false 2 (.agg [vI x27.1.Grain, .ref 7 0 x27.1.Nodes.length]), oX true true 2 (.agg [vI x29.1.N, vI x29.1.D]), oX true true 2 (.agg [vI x52.1.N, vI x52.1.D]), oR true 2 eTapi_Q x54.1, oR false 3 eTapi_Node x27.1.Nodes, .row false false true true 1 [vI 3, vI 1]], 275⟩) (by as_aux_lemma => kernel_rfl) ?_
                      refine callR (as0 := [vI 4, .ref 8 0 2]) (ids := [8]) (S := fun x74 => ⟨(D8_s71 x7 x9 x11 x27 x29 x52 x54) ++ [(185, .ref 8 0 2), (186, .ref 9 0 x74.length)], (D8_s72 x7 x9 x11 x27 x29 x52 x54 x74), 275⟩) (by as_aux_lemma => kernel_rfl) bodyB_32 (msnap_cons rfl (msnap_cons rfl msnap_nil (by rfl)) (by rfl)) (fun x74 q75 => D32_ok 4 [3, 1] x74 q75) (fun _ => by as_aux_lemma => kernel_rfl) h (fun x74 q75 h => ?_)
                      refine callZ (as0 := [.ref 0 0 x7.1.length, .ref 9 0 x74.length]) (ids := [0, 9]) (by as_aux_lemma => kernel_rfl) bodyB_23 (msnap_cons (snap_full rfl) (msnap_cons (snap_full rfl) msnap_nil (by rfl)) (by rfl)) (fun x76 q77 => D23_ok x7.1 x74 x76 q77) h (fun x76 q77 h => ?_)
                      refine sy 2 12 ?_
                      refine rbr (S := fun b78 => ⟨(D8_s71 x7 x9 x11 x27 x29 x52 x54) ++ [(185, .ref 8 0 2), (186, .ref 9 0 x74.length), (187, vB b78), (188, vB b78), (189, vB b78)], (D8_s72 x7 x9 x11 x27 x29 x52 x54 x74), 275⟩) h (fun q79 h => ?_) (fun q79 h => ?_)
                      · refine sy 4 16 ?_
                        refine rbr (S := fun b80 => ⟨(D8_s71 x7 x9 x11 x27 x29 x52 x54) ++ [(185, .ref 8 0 2), (186, .ref 9 0 x74.length), (187, vB true), (188, vB true), (189, vB true), (190, vI x9.2), (191, vB b80), (192, vB b80), (193, vB b80)], (D8_s72 x7 x9 x11 x27 x29 x52 x54 x74), 275⟩) h (fun q81 h => ?_) (fun q81 h => ?_)
                        · refine sy 1 17 ?_
                          refine sgL false [] [] true (S := ⟨(D8_s73 x7 x9 x11 x27 x29 x52 x54 x74) ++ [(195, .ref 10 0 3)], [oR true 2 eTapi_Q x7.1, oR true 2 eTapi_Q x9.1, oX true true 2 (.agg [vI x11.1.N, vI x11.1.D]), oX false false 2 (.agg [vI x27.1.Grain, .ref 7 0 x27.1.Nodes.length]), oX true true 2 (.agg [vI x29.1.N, vI x29.1.D]), oX true true 2 (.agg [vI x52.1.N, vI x52.1.D]), oR true 2 eTapi_Q x54.1, oR false 3 eTapi_Node x27.1.Nodes, .row false false true true 1 [vI 3, vI 1], oR true 2 eTapi_Q x74, .row false false true true 1 [vI 0, vI 3, vI 1]], 275⟩) (by as_aux_lemma => kernel_rfl) ?_
                          refine callR (as0 := [vI 4, .ref 10 0 3]) (ids := [10]) (S := fun x82 => ⟨(D8_s73 x7 x9 x11 x27 x29 x52 x54 x74) ++ [(195, .ref 10 0 3), (196, .ref 11 0 x82.length)], (D8_s74 x7 x9 x11 x27 x29 x52 x54 x74 x82), 275⟩) (by as_aux_lemma => kernel_rfl) bodyB_32 (msnap_cons rfl (msnap_cons rfl msnap_nil (by rfl)) (by rfl)) (fun x82 q83 => D32_ok 4 [0, 3, 1] x82 q83) (fun _ => by as_aux_lemma => kernel_rfl) h (fun x82 q83 h => ?_)
                          refine callZ (as0 := [.ref 1 0 x9.1.length, .ref 11 0 x82.length]) (ids := [1, 11]) (by as_aux_lemma => kernel_rfl) bodyB_23 (msnap_cons (snap_full rfl) (msnap_cons (snap_full rfl) msnap_nil (by rfl)) (by rfl)) (fun x84 q85 => D23_ok x9.1 x82 x84 q85) h (fun x84 q85 h => ?_)
                          refine sy 2 22 ?_
                          refine rbr (S := fun b86 => ⟨(D8_s73 x7 x9 x11 x27 x29 x52 x54 x74) ++ [(195, .ref 10 0 3), (196, .ref 11 0 x82.length), (197, vB b86), (198, vB b86), (199, vB b86)], (D8_s74 x7 x9 x11 x27 x29 x52 x54 x74 x82), 275⟩) h (fun q87 h => ?_) (fun q87 h => ?_)
                          · refine sy 4 26 ?_
                            refine rbr (S := fun b88 => ⟨(D8_s73 x7 x9 x11 x27 x29 x52 x54 x74) ++ [(195, .ref 10 0 3), (196, .ref 11 0 x82.length), (197, vB true), (198, vB true), (199, vB true), (200, vI x11.2), (201, vB b88), (202, vB b88), (203, vB b88)], (D8_s74 x7 x9 x11 x27 x29 x52 x54 x74 x82), 275⟩) h (fun q89 h => ?_) (fun q89 h => ?_)
                            · refine sy 1 27 ?_
                              refine callZ (as0 := [vI 2, vI 5]) (ids := []) (by as_aux_lemma => kernel_rfl) bodyB_28 (msnap_cons rfl (msnap_cons rfl msnap_nil (by rfl)) (by rfl)) (fun x90 q91 => D28_ok 2 5 x90 q91) h (fun x90 q91 h => ?_)
                              refine sy 3 31 ?_
                              refine rbr (S := fun b92 => ⟨(D8_s76 x7 x9 x11 x27 x29 x52 x54 x74 x82) ++ [(205, .agg [vI x90.N, vI x90.D]), (206, vB b92), (207, vB b92), (208, vB b92)], (D8_s74 x7 x9 x11 x27 x29 x52 x54 x74 x82), 275⟩) h (fun q93 h => ?_) (fun q93 h => ?_)
                              · refine sy 4 35 ?_
                                refine rbr (S := fun b94 => ⟨(D8_s76 x7 x9 x11 x27 x29 x52 x54 x74 x82) ++ [(205, .agg [vI x90.N, vI x90.D]), (206, vB true), (207, vB true), (208, vB true), (209, vI x27.2), (210, vB b94), (211, vB b94), (212, vB b94)], (D8_s74 x7 x9 x11 x27 x29 x52 x54 x74 x82), 275⟩) h (fun q95 h => ?_) (fun q95 h => ?_)
                                · refine sy 6 41 ?_
                                  refine rbr (S := fun b96 => ⟨(D8_s76 x7 x9 x11 x27 x29 x52 x54 x74 x82) ++ [(205, .agg [vI x90.N, vI x90.D]), (206, vB true), (207, vB true), (208, vB true), (209, vI x27.2), (210, vB true), (211, vB true), (212, vB true), (213, .ptr 3 0 1), (214, .ref 7 0 x27.1.Nodes.length), (215, vI (x27.1.Nodes.length : Int)), (216, vB b96), (217, vB b96), (218, vB b96)], (D8_s74 x7 x9 x11 x27 x29 x52 x54 x74 x82), 275⟩) h (fun q97 h => ?_) (fun q97 h => ?_)
                                  · refine sgy 2 43 (S := ⟨(D8_s79 x7 x9 x11 x27 x29 x52 x54 x74 x82 x90), (D8_s74 x7 x9 x11 x27 x29 x52 x54 x74 x82), 275⟩) ?_
                                    refine bind_elim h (fun a98 q99 h => ?_)
                                    refine idxR' (enc := eTapi_Node) (l := x27.1.Nodes) (n := 2) (w := 3) (ob := 7) (a := a98) (S := ⟨(D8_s79 x7 x9 x11 x27 x29 x52 x54 x74 x82 x90) ++ [(221, .ptr 7 (Int.toNat 2) 0)], (D8_s74 x7 x9 x11 x27 x29 x52 x54 x74 x82), 275⟩) (by as_aux_lemma => kernel_rfl) rfl (by as_aux_lemma => kernel_rfl) q99 ?_
                                    refine sgy 1 45 (S := ⟨(D8_s79 x7 x9 x11 x27 x29 x52 x54 x74 x82 x90) ++ [(221, .ptr 7 (Int.toNat 2) 0), (222, .ptr 7 (Int.toNat 2) 2)], (D8_s74 x7 x9 x11 x27 x29 x52 x54 x74 x82), 275⟩) ?_
                                    refine loadR (enc := eTapi_Node) (l := x27.1.Nodes) (n := 2) (ob := 7) (c := 2) (a := a98) (S := ⟨(D8_s79 x7 x9 x11 x27 x29 x52 x54 x74 x82 x90) ++ [(221, .ptr 7 (Int.toNat 2) 0), (222, .ptr 7 (Int.toNat 2) 2), (223, eL false (eL true eI) a98.Rows)], (D8_s74 x7 x9 x11 x27 x29 x52 x54 x74 x82), 275⟩) (by as_aux_lemma => kernel_rfl) rfl q99 (by as_aux_lemma => kernel_rfl) ?_
                                    refine lenZ (enc := (eL true eI)) (l := a98.Rows) (fl := false) (by as_aux_lemma => kernel_rfl) ?_
                                    refine sy 3 50 ?_
                                    refine rbr (S := fun b100 => ⟨(D8_s79 x7 x9 x11 x27 x29 x52 x54 x74 x82 x90) ++ [(221, .ptr 7 (Int.toNat 2) 0), (222, .ptr 7 (Int.toNat 2) 2), (223, eL false (eL true eI) a98.Rows), (224, vI (a98.Rows.length : Int)), (225, vB b100), (226, vB b100), (227, vB b100)], (D8_s74 x7 x9 x11 x27 x29 x52 x54 x74 x82), 275⟩) h (fun q101 h => ?_) (fun q101 h => ?_)
                                    · refine sgy 2 52 (S := ⟨(D8_s81 x7 x9 x11 x27 x29 x52 x54 x74 x82 x90 a98), (D8_s74 x7 x9 x11 x27 x29 x52 x54 x74 x82), 275⟩) ?_
                                      refine idxR' (enc := eTapi_Node) (l := x27.1.Nodes) (n := 2) (w := 3) (ob := 7) (a := a98) (S := ⟨(D8_s81 x7 x9 x11 x27 x29 x52 x54 x74 x82 x90 a98) ++ [(230, .ptr 7 (Int.toNat 2) 0)], (D8_s74 x7 x9 x11 x27 x29 x52 x54 x74 x82), 275⟩) (by as_aux_lemma => kernel_rfl) rfl (by as_aux_lemma => kernel_rfl) q99 ?_
                                      refine sgy 1 54 (S := ⟨(D8_s81 x7 x9 x11 x27 x29 x52 x54 x74 x82 x90 a98) ++ [(230, .ptr 7 (Int.toNat 2) 0), (231, .ptr 7 (Int.toNat 2) 2)], (D8_s74 x7 x9 x11 x27 x29 x52 x54 x74 x82), 275⟩) ?_
                                      refine loadR (enc := eTapi_Node) (l := x27.1.Nodes) (n := 2) (ob := 7) (c := 2) (a := a98) (S := ⟨(D8_s81 x7 x9 x11 x27 x29 x52 x54 x74 x82 x90 a98) ++ [(230, .ptr 7 (Int.toNat 2) 0), (231, .ptr 7 (Int.toNat 2) 2), (232, eL false (eL true eI) a98.Rows)], (D8_s74 x7 x9 x11 x27 x29 x52 x54 x74 x82), 275⟩) (by as_aux_lemma => kernel_rfl) rfl q99 (by as_aux_lemma => kernel_rfl) ?_
                                      refine bind_elim h (fun a102 q103 h => ?_)
                                      refine idxZ (enc := (eL true eI)) (l := a98.Rows) (n := 2) (fl := false) (w := 1) (a := a102) (by as_aux_lemma => kernel_rfl) q103 ?_
                                      refine sy 1 57 ?_
                                      refine sgL false [] [] true (S := ⟨(D8_s81 x7 x9 x11 x27 x29 x52 x54 x74 x82 x90 a98) ++ [(230, .ptr 7 (Int.toNat 2) 0), (231, .ptr 7 (Int.toNat 2) 2), (232, eL false (eL true eI) a98.Rows), (233, .fz [eL true eI a102]), (234, eL true eI a102), (235, .ref 12 0 2)], (D8_s83 x7 x9 x11 x27 x29 x52 x54 x74 x82), 275⟩) (by as_aux_lemma => kernel_rfl) ?_
                                      refine callZ (as0 := [eL true eI a102, .ref 12 0 2]) (ids := [12]) (by as_aux_lemma => kernel_rfl) bodyB_35 (msnap_cons rfl (msnap_cons rfl msnap_nil (by rfl)) (by rfl)) (fun x104 q105 => D35_ok a102 [2, 2] x104 q105) h (fun x104 q105 h => ?_)
                                      refine sy 2 61 ?_
                                      refine rbr (S := fun b106 => ⟨[(2, .ref 0 0 x7.1.length), (3, vI x7.2), (4, .ref 1 0 x9.1.length), (5, vI x9.2), (6, .ptr 2 0 0), (7, vI x11.2), (22, .ptr 3 0 0), (23, vI x27.2), (24, .ptr 4 0 0), (25, vI x29.2), (31, .ptr 5 0 0), (32, vI x52.2), (33, .ref 6 0 x54.1.length), (34, vI x54.2), (35, vB true), (178, vB true), (179, vB true), (180, vI x7.2), (181, vB true), (182, vB true), (183, vB true), (184, .ref 0 0 x7.1.length), (185, .ref 8 0 2), (186, .ref 9 0 x74.length), (187, vB true), (188, vB true), (189, vB true), (190, vI x9.2), (191, vB true), (192, vB true), (193, vB true), (194, .ref 1 0 x9.1.length), (195, .ref 10 0 3), (196, .ref 11 0 x82.length), (197, vB true), (198, vB true), (199, vB true), (200, vI x11.2), (201, vB true), (202, vB true), (203, vB true), (204, .agg [vI x11.1.N, vI x11.1.D]), (205, .agg [vI x90.N, vI x90.D]), (206, vB true), (207, vB true), (208, vB true), (209, vI x27.2), (210, vB true), (211, vB true), (212, vB true), (213, .ptr 3 0 1), (214, .ref 7 0 x27.1.Nodes.length), (215, vI (x27.1.Nodes.length : Int)), (216, vB true), (217, vB true), (218, vB true), (219, .ptr 3 0 1), (220, .ref 7 0 x27.1.Nodes.length), (221, .ptr 7 (Int.toNat 2) 0), (222, .ptr 7 (Int.toNat 2) 2), (223, eL false (eL true eI) a98.Rows), (224, vI (a98.Rows.length : Int)), (225, vB true), (226, vB true), (227, vB true), (228, .ptr 3 0 1), (229, .ref 7 0 x27.1.Nodes.length), (230, .ptr 7 (Int.toNat 2) 0), (231, .ptr 7 (Int.toNat 2) 2), (232, eL false (eL true eI) a98.Rows), (233, .fz [eL true eI a102]), (234, eL true eI a102), (235, .ref 12 0 2), (236, vB b106), (237, vB b106), (238, vB b106)], (D8_s83 x7 x9 x11 x27 x29 x52 x54 x74 x82), 275⟩) h (fun q107 h => ?_) (fun q107 h => ?_)
                                      · refine sgy 2 63 (S := ⟨(D8_s84 x7 x9 x11 x27 x29 x52 x54 x74 x82 x90 a98 a102), (D8_s83 x7 x9 x11 x27 x29 x52 x54 x74 x82), 275⟩) ?_
                                        refine idxR' (enc := eTapi_Node) (l := x27.1.Nodes) (n := 2) (w := 3) (ob := 7) (a := a98) (S := ⟨(D8_s84 x7 x9 x11 x27 x29 x52 x54 x74 x82 x90 a98 a102) ++ [(241, .ptr 7 (Int.toNat 2) 0)], (D8_s83 x7 x9 x11 x27 x29 x52 x54 x74 x82), 275⟩) (by as_aux_lemma => kernel_rfl) rfl (by as_aux_lemma => kernel_rfl) q99 ?_
                                        refine sgy 1 65 (S := ⟨(D8_s84 x7 x9 x11 x27 x29 x52 x54 x74 x82 x90 a98 a102) ++ [(241, .ptr 7 (Int.toNat 2) 0), (242, .ptr 7 (Int.toNat 2) 1)], (D8_s83 x7 x9 x11 x27 x29 x52 x54 x74 x82), 275⟩) ?_
                                        refine loadR (enc := eTapi_Node) (l := x27.1.Nodes) (n := 2) (ob := 7) (c := 1) (a := a98) (S := ⟨(D8_s84 x7 x9 x11 x27 x29 x52 x54 x74 x82 x90 a98 a102) ++ [(241, .ptr 7 (Int.toNat 2) 0), (242, .ptr 7 (Int.toNat 2) 1), (243, eL true eI a98.Parents)], (D8_s83 x7 x9 x11 x27 x29 x52 x54 x74 x82), 275⟩) (by as_aux_lemma => kernel_rfl) rfl q99 (by as_aux_lemma => kernel_rfl) ?_
                                        refine sgL false [] [] true (S := ⟨(D8_s84 x7 x9 x11 x27 x29 x52 x54 x74 x82 x90 a98 a102) ++ [(241, .ptr 7 (Int.toNat 2) 0), (242, .ptr 7 (Int.toNat 2) 1), (243, eL true eI a98.Parents), (244, .ref 13 0 2)], (D8_s85 x7 x9 x11 x27 x29 x52 x54 x74 x82), 275⟩) (by as_aux_lemma => kernel_rfl) ?_
                                        refine callZ (as0 := [eL true eI a98.Parents, .ref 13 0 2]) (ids := [13]) (by as_aux_lemma => kernel_rfl) bodyB_35 (msnap_cons rfl (msnap_cons rfl msnap_nil (by rfl)) (by rfl)) (fun x108 q109 => D35_ok a98.Parents [0, 1] x108 q109) h (fun x108 q109 h => ?_)
                                        refine sy 2 70 ?_
                                        refine rbr (S := fun b110 => ⟨(D8_s84 x7 x9 x11 x27 x29 x52 x54 x74 x82 x90 a98 a102) ++ [(241, .ptr 7 (Int.toNat 2) 0), (242, .ptr 7 (Int.toNat 2) 1), (243, eL true eI a98.Parents), (244, .ref 13 0 2), (245, vB b110), (246, vB b110), (247, vB b110)], (D8_s85 x7 x9 x11 x27 x29 x52 x54 x74 x82), 275⟩) h (fun q111 h => ?_) (fun q111 h => ?_)
                                        · refine sy 4 74 ?_
                                          refine rbr (S := fun b112 => ⟨(D8_s84 x7 x9 x11 x27 x29 x52 x54 x74 x82 x90 a98 a102) ++ [(241, .ptr 7 (Int.toNat 2) 0), (242, .ptr 7 (Int.toNat 2) 1), (243, eL true eI a98.Parents), (244, .ref 13 0 2), (245, vB true), (246, vB true), (247, vB true), (248, vI x29.2), (249, vB b112), (250, vB b112), (251, vB b112)], (D8_s85 x7 x9 x11 x27 x29 x52 x54 x74 x82), 275⟩) h (fun q113 h => ?_) (fun q113 h => ?_)
                                          · refine sy 1 75 ?_
                                            refine callZ (as0 := [vI 0, vI 1]) (ids := []) (by as_aux_lemma => kernel_rfl) bodyB_28 (msnap_cons rfl (msnap_cons rfl msnap_nil (by rfl)) (by rfl)) (fun x114 q115 => D28_ok 0 1 x114 q115) h (fun x114 q115 h => ?_)
                                            refine sy 3 79 ?_
                                            refine rbr (S := fun b116 => ⟨(D8_s87 x7 x9 x11 x27 x29 x52 x54 x74 x82 x90 a98 a102) ++ [(253, .agg [vI x114.N, vI x114.D]), (254, vB b116), (255, vB b116), (256, vB b116)], (D8_s85 x7 x9 x11 x27 x29 x52 x54 x74 x82), 275⟩) h (fun q117 h => ?_) (fun q117 h => ?_)
                                            · refine sy 4 83 ?_
                                              refine rbr (S := fun b118 => ⟨(D8_s87 x7 x9 x11 x27 x29 x52 x54 x74 x82 x90 a98 a102) ++ [(253, .agg [vI x114.N, vI x114.D]), (254, vB true), (255, vB true), (256, vB true), (257, vI x52.2), (258, vB b118), (259, vB b118), (260, vB b118)], (D8_s85 x7 x9 x11 x27 x29 x52 x54 x74 x82), 275⟩) h (fun q119 h => ?_) (fun q119 h => ?_)
                                              · refine sy 1 84 ?_
                                                refine callZ (as0 := [vI 1, vI 4096]) (ids := []) (by as_aux_lemma => kernel_rfl) bodyB_28 (msnap_cons rfl (msnap_cons rfl msnap_nil (by rfl)) (by rfl)) (fun x120 q121 => D28_ok 1 4096 x120 q121) h (fun x120 q121 h => ?_)
                                                refine sy 3 88 ?_
                                                refine rbr (S := fun b122 => ⟨(D8_s87 x7 x9 x11 x27 x29 x52 x54 x74 x82 x90 a98 a102) ++ [(253, .agg [vI x114.N, vI x114.D]), (254, vB true), (255, vB true), (256, vB true), (257, vI x52.2), (258, vB true), (259, vB true), (260, vB true), (261, .agg [vI x52.1.N, vI x52.1.D])] ++ [(262, .agg [vI x120.N, vI x120.D]), (263, vB b122), (264, vB b122), (265, vB b122)], (D8_s85 x7 x9 x11 x27 x29 x52 x54 x74 x82), 275⟩) h (fun q123 h => ?_) (fun q123 h => ?_)
                                                · refine sy 4 92 ?_
                                                  refine rbr (S := fun b124 => ⟨(D8_s87 x7 x9 x11 x27 x29 x52 x54 x74 x82 x90 a98 a102) ++ [(253, .agg [vI x114.N, vI x114.D]), (254, vB true), (255, vB true), (256, vB true), (257, vI x52.2), (258, vB true), (259, vB true), (260, vB true), (261, .agg [vI x52.1.N, vI x52.1.D])] ++ [(262, .agg [vI x120.N, vI x120.D]), (263, vB true), (264, vB true), (265, vB true), (266, vI x54.2), (267, vB b124), (268, vB b124), (269, vB b124)], (D8_s85 x7 x9 x11 x27 x29 x52 x54 x74 x82), 275⟩) h (fun q125 h => ?_) (fun q125 h => ?_)
                                                  · refine sy 1 93 ?_
                                                    refine sgL false [] [] true (S := ⟨[(2, .ref 0 0 x7.1.length), (3, vI x7.2), (4, .ref 1 0 x9.1.length), (5, vI x9.2), (6, .ptr 2 0 0), (7, vI x11.2), (22, .ptr 3 0 0), (23, vI x27.2), (24, .ptr 4 0 0), (25, vI x29.2), (31, .ptr 5 0 0), (32, vI x52.2), (33, .ref 6 0 x54.1.length), (34, vI x54.2), (35, vB true), (178, vB true), (179, vB true), (180, vI x7.2), (181, vB true), (182, vB true), (183, vB true), (184, .ref 0 0 x7.1.length), (185, .ref 8 0 2), (186, .ref 9 0 x74.length), (187, vB true), (188, vB true), (189, vB true), (190, vI x9.2), (191, vB true), (192, vB true), (193, vB true), (194, .ref 1 0 x9.1.length), (195, .ref 10 0 3), (196, .ref 11 0 x82.length), (197, vB true), (198, vB true), (199, vB true), (200, vI x11.2), (201, vB true), (202, vB true), (203, vB true), (204, .agg [vI x11.1.N, vI x11.1.D]), (205, .agg [vI x90.N, vI x90.D]), (206, vB true), (207, vB true), (208, vB true), (209, vI x27.2), (210, vB true), (211, vB true), (212, vB true), (213, .ptr 3 0 1), (214, .ref 7 0 x27.1.Nodes.length), (215, vI (x27.1.Nodes.length : Int)), (216, vB true), (217, vB true), (218, vB true), (219, .ptr 3 0 1), (220, .ref 7 0 x27.1.Nodes.length), (221, .ptr 7 (Int.toNat 2) 0), (222, .ptr 7 (Int.toNat 2) 2), (223, eL false (eL true eI) a98.Rows), (224, vI (a98.Rows.length : Int)), (225, vB true), (226, vB true), (227, vB true), (228, .ptr 3 0 1), (229, .ref 7 0 x27.1.Nodes.length), (230, .ptr 7 (Int.toNat 2) 0), (231, .ptr 7 (Int.toNat 2) 2), (232, eL false (eL true eI) a98.Rows), (233, .fz [eL true eI a102]), (234, eL true eI a102), (235, .ref 12 0 2), (236, vB true), (237, vB true), (238, vB true), (239, .ptr 3 0 1), (240, .ref 7 0 x27.1.Nodes.length), (241, .ptr 7 (Int.toNat 2) 0), (242, .ptr 7 (Int.toNat 2) 1), (243, eL true eI a98.Parents), (244, .ref 13 0 2), (245, vB true), (246, vB true), (247, vB true), (248, vI x29.2), (249, vB true), (250, vB true), (251, vB true), (252, .agg [vI x29.1.N, vI x29.1.D]), (253, .agg [vI x114.N, vI x114.D]), (254, vB true), (255, vB true), (256, vB true), (257, vI x52.2), (258, vB true), (259, vB true), (260, vB true), (261, .agg [vI x52.1.N, vI x52.1.D]), (262, .agg [vI x120.N, vI x120.D]), (263, vB true), (264, vB true), (265, vB true), (266, vI x54.2), (267, vB true), (268, vB true), (269, vB true), (270, .ref 6 0 x54.1.length), (271, .ref 14 0 11)], [oR true 2 eTapi_Q x7.1, oR true 2 eTapi_Q x9.1, oX true true 2 (.agg [vI x11.1.N, vI x11.1.D]), oX false false 2 (.agg [vI x27.1.Grain, .ref 7 0 x27.1.Nodes.length]), oX true true 2 (.agg [vI x29.1.N, vI x29.1.D]), oX true true 2 (.agg [vI x52.1.N, vI x52.1.D]), oR true 2 eTapi_Q x54.1, oR false 3 eTapi_Node x27.1.Nodes, .row false false true true 1 [vI 3, vI 1], oR true 2 eTapi_Q x74, .row false false true true 1 [vI 0, vI 3, vI 1], oR true 2 eTapi_Q x82, .row false false true true 1 [vI 2, vI 2], .row false false true true 1 [vI 0, vI 1], .row false false true true 1 [vI 1, vI 10, vI 45, vI 120, vI 210, vI 252, vI 210, vI 120, vI 45, vI 10, vI 1]], 275⟩) (by as_aux_lemma => kernel_rfl) ?_
                                                    refine callR (as0 := [vI 1024, .ref 14 0 11]) (ids := [14]) (S := fun x126 => ⟨[(2, .ref 0 0 x7.1.length), (3, vI x7.2), (4, .ref 1 0 x9.1.length), (5, vI x9.2), (6, .ptr 2 0 0), (7, vI x11.2), (22, .ptr 3 0 0), (23, vI x27.2), (24, .ptr 4 0 0), (25, vI x29.2), (31, .ptr 5 0 0), (32, vI x52.2), (33, .ref 6 0 x54.1.length), (34, vI x54.2), (35, vB true), (178, vB true), (179, vB true), (180, vI x7.2), (181, vB true), (182, vB true), (183, vB true), (184, .ref 0 0 x7.1.length), (185, .ref 8 0 2), (186, .ref 9 0 x74.length), (187, vB true), (188, vB true), (189, vB true), (190, vI x9.2), (191, vB true), (192, vB true), (193, vB true), (194, .ref 1 0 x9.1.length), (195, .ref 10 0 3), (196, .ref 11 0 x82.length), (197, vB true), (198, vB true), (199, vB true), (200, vI x11.2), (201, vB true), (202, vB true), (203, vB true), (204, .agg [vI x11.1.N, vI x11.1.D]), (205, .agg [vI x90.N, vI x90.D]), (206, vB true), (207, vB true), (208, vB true), (209, vI x27.2), (210, vB true), (211, vB true), (212, vB true), (213, .ptr 3 0 1), (214, .ref 7 0 x27.1.Nodes.length), (215, vI (x27.1.Nodes.length : Int)), (216, vB true), (217, vB true), (218, vB true), (219, .ptr 3 0 1), (220, .ref 7 0 x27.1.Nodes.length), (221, .ptr 7 (Int.toNat 2) 0), (222, .ptr 7 (Int.toNat 2) 2), (223, eL false (eL true eI) a98.Rows), (224, vI (a98.Rows.length : Int)), (225, vB true), (226, vB true), (227, vB true), (228, .ptr 3 0 1), (229, .ref 7 0 x27.1.Nodes.length), (230, .ptr 7 (Int.toNat 2) 0), (231, .ptr 7 (Int.toNat 2) 2), (232, eL false (eL true eI) a98.Rows), (233, .fz [eL true eI a102]), (234, eL true eI a102), (235, .ref 12 0 2), (236, vB true), (237, vB true), (238, vB true), (239, .ptr 3 0 1), (240, .ref 7 0 x27.1.Nodes.length), (241, .ptr 7 (Int.toNat 2) 0), (242, .ptr 7 (Int.toNat 2) 1), (243, eL true eI a98.Parents), (244, .ref 13 0 2), (245, vB true), (246, vB true), (247, vB true), (248, vI x29.2), (249, vB true), (250, vB true), (251, vB true), (252, .agg [vI x29.1.N, vI x29.1.D]), (253, .agg [vI x114.N, vI x114.D]), (254, vB true), (255, vB true), (256, vB true), (257, vI x52.2), (258, vB true), (259, vB true), (260, vB true), (261, .agg [vI x52.1.N, vI x52.1.D]), (262, .agg [vI x120.N, vI x120.D]), (263, vB true), (264, vB true), (265, vB true), (266, vI x54.2), (267, vB true), (268, vB true), (269, vB true), (270, .ref 6 0 x54.1.length), (271, .ref 14 0 11), (272, .ref 15 0 x126.length)], [oR true 2 eTapi_Q x7.1, oR true 2 eTapi_Q x9.1, oX true true 2 (.agg [vI x11.1.N, vI x11.1.D]), oX false false 2 (.agg [vI x27.1.Grain, .ref 7 0 x27.1.Nodes.length]), oX true true 2 (.agg [vI x29.1.N, vI x29.1.D]), oX true true 2 (.agg [vI x52.1.N, vI x52.1.D]), oR true 2 eTapi_Q x54.1, oR false 3 eTapi_Node x27.1.Nodes, .row false false true true 1 [vI 3, vI 1], oR true 2 eTapi_Q x74, .row false false true true 1 [vI 0, vI 3, vI 1], oR true 2 eTapi_Q x82, .row false false true true 1 [vI 2, vI 2], .row false false true true 1 [vI 0, vI 1], .row false false true true 1 [vI 1, vI 10, vI 45, vI 120, vI 210, vI 252, vI 210, vI 120, vI 45, vI 10, vI 1], oR true 2 eTapi_Q x126], 275⟩) (by as_aux_lemma => kernel_rfl) bodyB_32 (msnap_cons rfl (msnap_cons rfl msnap_nil (by rfl)) (by rfl)) (fun x126 q127 => D32_ok 1024 [1, 10, 45, 120, 210, 252, 210, 120, 45, 10, 1] x126 q127) (fun _ => by as_aux_lemma => kernel_rfl) h (fun x126 q127 h => ?_)
                                                    refine callZ (as0 := [.ref 6 0 x54.1.length, .ref 15 0 x126.length]) (ids := [6, 15]) (by as_aux_lemma => kernel_rfl) bodyB_23 (msnap_cons (snap_full rfl) (msnap_cons (snap_full rfl) msnap_nil (by rfl)) (by rfl)) (fun x128 q129 => D23_ok x54.1 x126 x128 q129) h (fun x128 q129 h => ?_)
                                                    refine sy 2 98 ?_
                                                    refine rgd ?_
                                                    refine wg [0] [] ?_
                                                    refine wp_ret ?_
                                                    cases h
                                                    show fnOut _ _ _ _ = _
                                                    kernel_rfl
                                                  refine sy 6 98 ?_
                                                  refine rgd ?_
                                                  refine wg [0] [] ?_
                                                  refine wp_ret ?_
                                                  cases h
                                                  show fnOut _ _ _ _ = _
                                                  kernel_rfl
                                                refine sy 10 98 ?_
                                                refine rgd ?_
                                                refine wg [0] [] ?_
                                                refine wp_ret ?_
                                                cases h
                                                show fnOut _ _ _ _ = _
                                                kernel_rfl
                                              refine sy 15 98 ?_
                                              refine rgd ?_
                                              refine wg [0] [] ?_
                                              refine wp_ret ?_
                                              cases h
                                              show fnOut _ _ _ _ = _
                                              kernel_rfl
                                            refine sy 19 98 ?_
                                            refine rgd ?_
                                            refine wg [0] [] ?_
                                            refine wp_ret ?_
                                            cases h
                                            show fnOut _ _ _ _ = _
                                            kernel_rfl
                                          refine sy 24 98 ?_
                                          refine rgd ?_
                                          refine wg [0] [] ?_
                                          refine wp_ret ?_
                                          cases h
                                          show fnOut _ _ _ _ = _
                                          kernel_rfl
                                        refine sy 28 98 ?_
                                        refine rgd ?_
                                        refine wg [0] [] ?_
                                        refine wp_ret ?_
                                        cases h
                                        show fnOut _ _ _ _ = _
                                        kernel_rfl
                                      refine sy 37 98 ?_
                                      refine rgd ?_
                                      refine wg [0] [] ?_
                                      refine wp_ret ?_
                                      cases h
                                      show fnOut _ _ _ _ = _
                                      kernel_rfl
                                    refine sy 48 98 ?_
                                    refine rgd ?_
                                    refine wg [0] [] ?_
                                    refine wp_ret ?_
                                    cases h
                                    show fnOut _ _ _ _ = _
                                    kernel_rfl
                                  refine sy 57 98 ?_
                                  refine rgd ?_
                                  refine wg [0] [] ?_
                                  refine wp_ret ?_
                                  cases h
                                  show fnOut _ _ _ _ = _
                                  kernel_rfl
                                refine sy 63 98 ?_
                                refine rgd ?_
                                refine wg [0] [] ?_
                                refine wp_ret ?_
                                cases h
                                show fnOut _ _ _ _ = _
                                kernel_rfl
                              refine sy 67 98 ?_
                              refine rgd ?_
                              refine wg [0] [] ?_
                              refine wp_ret ?_
                              cases h
                              show fnOut _ _ _ _ = _
                              kernel_rfl
                            refine sy 72 98 ?_
                            refine rgd ?_
                            refine wg [0] [] ?_
                            refine wp_ret ?_
                            cases h
                            show fnOut _ _ _ _ = _
                            kernel_rfl
                          refine sy 76 98 ?_
                          refine rgd ?_
                          refine wg [0] [] ?_
                          refine wp_ret ?_
                          cases h
                          show fnOut _ _ _ _ = _
                          kernel_rfl
                        refine sy 82 98 ?_
                        refine rgd ?_
                        refine wg [0] [] ?_
                        refine wp_ret ?_
                        cases h
                        show fnOut _ _ _ _ = _
                        kernel_rfl
                      refine sy 86 98 ?_
                      refine rgd ?_
                      refine wg [0] [] ?_
                      refine wp_ret ?_
                      cases h
                      show fnOut _ _ _ _ = _
                      kernel_rfl
                    refine sy 92 98 ?_
                    refine rgd ?_
                    refine wg [0] [] ?_
                    refine wp_ret ?_
                    cases h
                    show fnOut _ _ _ _ = _
                    kernel_rfl
                  refine sy 96 98 ?_
                  refine rgd ?_
                  refine wg [0] [] ?_
                  refine wp_ret ?_
                  cases h
                  show fnOut _ _ _ _ = _
                  kernel_rfl
                refine sz 4 31 ?_
                refine reg_end rfl ?_
                refine wp_seq ?_
                refine wg [2, 3, 4, 5, 6, 7, 22, 23, 24, 25, 31, 32, 33, 34, 35] [0, 1, 2, 3, 4, 5, 6, 7] ?_
                refine rga hfol ?_
                refine sy 98 98 ?_
                refine rgd ?_
                refine wg [0] [] ?_
                refine wp_ret ?_
                cases h
                show fnOut _ _ _ _ = _
                kernel_rfl
              refine sz 8 31 ?_
              refine reg_end rfl ?_
              refine wp_seq ?_
              refine wg [2, 3, 4, 5, 6, 7, 22, 23, 24, 25, 31, 32, 33, 34, 35] [0, 1, 2, 3, 4, 5, 6, 7] ?_
              refine rga hfol ?_
              refine sy 98 98 ?_
              refine rgd ?_
              refine wg [0] [] ?_
              refine wp_ret ?_
              cases h
              show fnOut _ _ _ _ = _
              kernel_rfl
            refine sz 12 31 ?_
            refine reg_end rfl ?_
            refine wp_seq ?_
            refine wg [2, 3, 4, 5, 6, 7, 22, 23, 24, 25, 31, 32, 33, 34, 35] [0, 1, 2, 3, 4, 5, 6, 7] ?_
            refine rga hfol ?_
            refine sy 98 98 ?_
            refine rgd ?_
            refine wg [0] [] ?_
            refine wp_ret ?_
            cases h
            show fnOut _ _ _ _ = _
            kernel_rfl
          refine sz 16 31 ?_
          refine reg_end rfl ?_
          refine wp_seq ?_
          refine wg [2, 3, 4, 5, 6, 7, 22, 23, 24, 25, 31, 32, 33, 34, 35] [0, 1, 2, 3, 4, 5, 6, 7] ?_
          refine rga hfol ?_
          refine sy 98 98 ?_
          refine rgd ?_
          refine wg [0] [] ?_
          refine wp_ret ?_
          cases h
          show fnOut _ _ _ _ = _
          kernel_rfl
        refine sz 20 31 ?_
        refine reg_end rfl ?_
        refine wp_seq ?_
        refine wg [2, 3, 4, 5, 6, 7, 22, 23, 24, 25, 31, 32, 33, 34, 35] [0, 1, 2, 3, 4, 5, 6, 7] ?_
        refine rga hfol ?_
        refine sy 98 98 ?_
        refine rgd ?_
        refine wg [0] [] ?_
        refine wp_ret ?_
        cases h
        show fnOut _ _ _ _ = _
        kernel_rfl
      refine sz 24 31 ?_
      refine reg_end rfl ?_
      refine wp_seq ?_
      refine wg [2, 3, 4, 5, 6, 7, 22, 23, 24, 25, 31, 32, 33, 34, 35] [0, 1, 2, 3, 4, 5, 6, 7] ?_
      refine rga hfol ?_
      refine sy 98 98 ?_
      refine rgd ?_
      refine wg [0] [] ?_
      refine wp_ret ?_
      cases h
      show fnOut _ _ _ _ = _
      kernel_rfl
    refine sz 28 31 ?_
    refine reg_end rfl ?_
    refine wp_seq ?_
    refine wg [2, 3, 4, 5, 6, 7, 22, 23, 24, 25, 31, 32, 33, 34, 35] [0, 1, 2, 3, 4, 5, 6, 7] ?_
    refine rga hfol ?_
    refine sy 98 98 ?_
    refine rgd ?_
    refine wg [0] [] ?_
    refine wp_ret ?_
    cases h
    show fnOut _ _ _ _ = _
    kernel_rfl
end Go.Ab
namespace Go.Ab
set_option maxRecDepth 100000
theorem D8_true : D8 = some true := by kernel_rfl
end Go.Ab
